/-
The productions by which rules make their least rows, and the rows that they spell: the plain law.
-/
import Derived.Laws.Cover3
import Derived.Test.YtdngobjcdajogaaT9QH
namespace Go.Proofs.Ytdngobjcdajogaa.Gram
open Go.RowKit Go.Proofs.YtdngobjcdajogaaW.PrintWords Go.Proofs.YtdngobjcdajogaaW.PrintLast Go.Proofs.YtdngobjcdajogaaW.PrintMore Go.Proofs.Ytdngobjcdajogaa.Fr Go.Proofs.Ytdngobjcdajogaa.PGramFirsts Go.Proofs.Ytdngobjcdajogaa.TextSet
/-- A symbol spells a row, by the productions that are taken. -/
inductive SpellS (G : Gr) (L T : List Int) : Int → List Int → Prop
  | kind {x : Int} : x < G.kinds.length → SpellS G L T x [x]
  | zero {x : Int} : ¬ x < G.kinds.length → rd L (x - G.kinds.length) = 0 → SpellS G L T x []
  | rule {x : Int} {i : Nat} (ws : Nat → List Int) : ¬ x < G.kinds.length → rd L (x - G.kinds.length) ≠ 0 → rd T (x - G.kinds.length) = i → i < G.prods.length → (rd_T57 G.prods i).f0 = x - G.kinds.length →
      (∀ j : Nat, j < (rd_T57 G.prods i).f1.length → SpellS G L T (rd (rd_T57 G.prods i).f1 j) (ws j)) → SpellS G L T x ((List.range (rd_T57 G.prods i).f1.length).flatMap ws)
theorem rd_set_ne {T : List Int} {a : Nat} {i : Int} {b : Int} (h : b.toNat ≠ a) : rd (T.set a i) b = rd T b := by
  simp only [rd, List.getD_eq_getElem?_getD, List.getElem?_set]
  rw [if_neg (fun e => h e.symm)]
theorem SpellS.set {G : Gr} {L T : List Int} {x : Int} {w : List Int} (h : SpellS G L T x w) {a : Nat} {v : Int} (hn : rd T (a : Int) < 0) : SpellS G L (T.set a v) x w := by
  induction h with
  | kind h => exact .kind h
  | zero h1 h2 => exact .zero h1 h2
  | @rule x i ws h1 h2 h3 h4 h5 _ ih =>
    refine .rule ws h1 h2 ?_ h4 h5 ih
    rw [rd_set_ne, h3]
    intro e
    have e1 : x - (G.kinds.length : Int) = (a : Int) := by omega
    rw [e1] at h3
    omega
/-- A rule has a production taken: it makes its least row. -/
structure TakS (G : Gr) (L T : List Int) (a : Nat) : Prop where
  ex : ∃ i : Nat, rd T (a : Int) = i ∧ i < G.prods.length ∧ (rd_T57 G.prods i).f0 = a ∧ sizeF G.kinds.length L 0 (rd_T57 G.prods i).f1 = rd L (a : Int) ∧ 0 ≤ rd L (a : Int) ∧
    ∀ j : Nat, j < (rd_T57 G.prods i).f1.length → ∃ w, SpellS G L T (rd (rd_T57 G.prods i).f1 j) w
/-- The productions taken so far. -/
structure TP (G : Gr) (L T : List Int) : Prop where
  len : T.length = G.rules.length
  low : ∀ a : Nat, a < G.rules.length → -1 ≤ rd T (a : Int)
  snd : ∀ a : Nat, a < G.rules.length → 0 ≤ rd T (a : Int) → TakS G L T a
theorem TP.start (G : Gr) (L : List Int) : TP G L (List.replicate G.rules.length (-1)) := by
  have h : ∀ a : Nat, a < G.rules.length → rd (List.replicate G.rules.length (-1)) (a : Int) = -1 := fun a ha => by simp [rd, List.getD_eq_getElem?_getD, ha]
  exact ⟨by simp, fun a ha => by rw [h a ha]; exact Int.le_refl _, fun a ha h0 => by rw [h a ha] at h0; exact absurd h0 (by decide)⟩
/-- Of a rule with a production taken there is a row spelled. -/
theorem TP.spells {G : Gr} {L T : List Int} (h : TP G L T) {a : Nat} (ha : a < G.rules.length) (h0 : 0 ≤ rd T (a : Int)) : ∃ w, SpellS G L T ((G.kinds.length : Int) + a) w := by
  obtain ⟨i, h1, h2, h3, _, _, h5⟩ := (h.snd a ha h0).ex
  have e : (G.kinds.length : Int) + a - G.kinds.length = a := by omega
  by_cases hz : rd L (a : Int) = 0
  · exact ⟨[], .zero (by omega) (by rw [e]; exact hz)⟩
  · refine ⟨_, .rule (i := i) (fun j => if hj : j < (rd_T57 G.prods i).f1.length then Classical.choose (h5 j hj) else []) (by omega) (by rw [e]; exact hz) (by rw [e]; exact h1) h2 (by rw [h3]; omega) (fun j hj => ?_)⟩
    rw [dif_pos hj]
    exact Classical.choose_spec (h5 j hj)
/-- Production i can be taken for its rule. -/
structure CanT (G : Gr) (L T : List Int) (i : Nat) : Prop where
  size : sizeF G.kinds.length L 0 (rd_T57 G.prods i).f1 = rd L (rd_T57 G.prods i).f0
  all : ∀ x, x ∈ (rd_T57 G.prods i).f1 → ¬ x < G.kinds.length → 0 ≤ rd T (x - G.kinds.length)
theorem size_nonneg {K : Nat} {L : List Int} : ∀ (l : List Int) (p : Int), 0 ≤ p → (∀ x, x ∈ l → ¬ x < K → 0 ≤ rd L (x - K)) → 0 ≤ sizeF K L p l
  | [], p, hp, _ => hp
  | x :: l, p, hp, h => by
    have h2 := fun y hy => h y (List.mem_cons_of_mem x hy)
    simp only [sizeF]
    by_cases hk : x < K
    · rw [if_pos hk]
      exact size_nonneg l _ (by rw [mn_le]; split <;> omega) h2
    · have := h x List.mem_cons_self hk
      rw [if_neg hk, if_neg (by omega)]
      exact size_nonneg l _ (by rw [mn_le]; split <;> omega) h2
theorem TP.next {G : Gr} {L T : List Int} (h : TP G L T) (hP : ProdsOk G) {i : Nat} (hi : i < G.prods.length) (hn : rd T (rd_T57 G.prods i).f0 < 0) (hc : CanT G L T i) :
    TP G L (T.set (rd_T57 G.prods i).f0.toNat i) := by
  have hp := hP i hi
  have hl : (rd_T57 G.prods i).f0.toNat < T.length := by rw [h.len]; omega
  have ef : (((rd_T57 G.prods i).f0.toNat : Nat) : Int) = (rd_T57 G.prods i).f0 := by omega
  rw [← ef] at hn
  have hsp : ∀ j : Nat, j < (rd_T57 G.prods i).f1.length → ∃ w, SpellS G L T (rd (rd_T57 G.prods i).f1 j) w := fun j hj => by
    have hs := hp.2.2.2 j hj
    by_cases hk : rd (rd_T57 G.prods i).f1 j < G.kinds.length
    · exact ⟨_, .kind hk⟩
    · have h0 := hc.all _ (rd_mem hj) hk
      obtain ⟨b, hb⟩ := Int.eq_ofNat_of_zero_le (show 0 ≤ rd (rd_T57 G.prods i).f1 j - G.kinds.length by omega)
      rw [hb] at h0
      obtain ⟨w, hw⟩ := h.spells (a := b) (by omega) h0
      exact ⟨w, by rwa [← show rd (rd_T57 G.prods i).f1 j = (G.kinds.length : Int) + b by omega] at hw⟩
  have hLn : 0 ≤ rd L (rd_T57 G.prods i).f0 := by
    rw [← hc.size]
    refine size_nonneg _ 0 (Int.le_refl _) (fun x hx hk => ?_)
    have h0 := hc.all x hx hk
    obtain ⟨j, hj, rfl⟩ := mem_rd hx
    have hs := hp.2.2.2 j hj
    obtain ⟨b, hb⟩ := Int.eq_ofNat_of_zero_le (show 0 ≤ rd (rd_T57 G.prods i).f1 j - G.kinds.length by omega)
    rw [hb] at h0 ⊢
    obtain ⟨_, _, _, _, _, h5, _⟩ := (h.snd b (by omega) h0).ex
    exact h5
  refine ⟨by simp [h.len], fun a ha => ?_, fun a ha h0 => ?_⟩
  · rw [rdI_set hl]
    split
    · omega
    · exact h.low a ha
  · rw [rdI_set hl] at h0
    by_cases e : a = (rd_T57 G.prods i).f0.toNat
    · refine ⟨i, by rw [rdI_set hl, if_pos e], hi, by omega, ?_, ?_, fun j hj => ?_⟩
      · rw [hc.size]
        exact congrArg _ (by omega)
      · rw [show ((a : Nat) : Int) = (rd_T57 G.prods i).f0 by omega]
        exact hLn
      · obtain ⟨w, hw⟩ := hsp j hj
        exact ⟨w, hw.set hn⟩
    · rw [if_neg e] at h0
      obtain ⟨i', h1, h2, h3, h4, h5, h6⟩ := (h.snd a ha h0).ex
      refine ⟨i', by rw [rdI_set hl, if_neg e]; exact h1, h2, h3, h4, h5, fun j hj => ?_⟩
      obtain ⟨w, hw⟩ := h6 j hj
      exact ⟨w, hw.set hn⟩
/-- No production can be taken any more. -/
def Shut0 (G : Gr) (L T : List Int) (i : Nat) : Prop := rd T (rd_T57 G.prods i).f0 < 0 → ¬ CanT G L T i
/-- What a row makes at least, not bounded. -/
def tot (K : Nat) (L : List Int) : List Int → Int
  | [] => 0
  | x :: l => (if x < K then 1 else rd L (x - K)) + tot K L l
/-- Where what size tells is at most 65536, nothing was bounded. -/
theorem size_exact {K : Nat} {L : List Int} : ∀ (l : List Int) (p : Int), 0 ≤ p → 0 ≤ sizeF K L p l → sizeF K L p l ≤ 65536 → sizeF K L p l = p + tot K L l ∧ 0 ≤ tot K L l ∧ (∀ x, x ∈ l → ¬ x < K → 0 ≤ rd L (x - K) ∧ rd L (x - K) ≤ 65536)
  | [], p, _, _, _ => ⟨by simp [sizeF, tot], Int.le_refl _, fun x hx => by cases hx⟩
  | x :: l, p, hp, h0, h1 => by
    simp only [sizeF, tot] at h0 h1 ⊢
    by_cases hk : x < K
    · simp only [if_pos hk] at h0 h1 ⊢
      have hq := mn_le (p + 1) 65537
      generalize mn (p + 1) 65537 = q at hq h0 h1 ⊢
      obtain ⟨h2, h3, h4⟩ := size_exact l q (by split at hq <;> omega) h0 h1
      refine ⟨by split at hq <;> omega, by omega, fun y hy hky => ?_⟩
      rcases List.mem_cons.1 hy with rfl | hy
      · exact absurd hk hky
      · exact h4 y hy hky
    · simp only [if_neg hk] at h0 h1 ⊢
      by_cases hr : rd L (x - K) < 0
      · rw [if_pos hr] at h0
        omega
      · rw [if_neg hr] at h0 h1 ⊢
        have hq := mn_le (p + rd L (x - K)) 65537
        generalize mn (p + rd L (x - K)) 65537 = q at hq h0 h1 ⊢
        obtain ⟨h2, h3, h4⟩ := size_exact l q (by split at hq <;> omega) h0 h1
        refine ⟨by split at hq <;> omega, by omega, fun y hy hky => ?_⟩
        rcases List.mem_cons.1 hy with rfl | hy
        · split at hq <;> omega
        · exact h4 y hy hky
/-- Every rule whose least row isn't bounded has a production taken, where none can be taken any more. -/
theorem taken_all {G : Gr} {L T : List Int} (hP : ProdsOk G) (hC : ∀ i, i < G.prods.length → ClosedL G L i) (hS : ∀ i, i < G.prods.length → Shut0 G L T i) {l : List Int} {n : Nat} (h : Siz G l n) :
    SymsOk G l → n ≤ 65536 → sizeF G.kinds.length L 0 l = n → ∀ x, x ∈ l → ¬ x < G.kinds.length → 0 ≤ rd T (x - G.kinds.length) := by
  induction h with
  | nil => exact fun _ _ _ x hx => by cases hx
  | @kind x l n hk _ ih =>
    intro hs hn he y hy hky
    have h1 := size_exact (K := G.kinds.length) (L := L) (x :: l) 0 (Int.le_refl _) (by omega) (by omega)
    have h2 : 0 ≤ sizeF G.kinds.length L 0 l := size_nonneg l 0 (Int.le_refl _) (fun z hz hkz => (h1.2.2 z (List.mem_cons_of_mem _ hz) hkz).1)
    have h4 := h1.1
    simp only [tot, if_pos hk] at h4
    have h5 : sizeF G.kinds.length L 0 l ≤ minF (0 + n) := (size_closed hC ‹_› 0 0 (Int.le_refl _) (minF_le 0).2.1).2
    have h6 := minF_le (0 + n)
    have h3 := size_exact (K := G.kinds.length) (L := L) l 0 (Int.le_refl _) h2 (by omega)
    rcases List.mem_cons.1 hy with rfl | hy
    · exact absurd hk hky
    · exact ih (fun z hz => hs z (List.mem_cons_of_mem _ hz)) (by omega) (by omega) y hy hky
  | @rule x l i m n hk hi hf hr hl ih1 ih2 =>
    intro hs hn he y hy hky
    have hx := hs x List.mem_cons_self
    have h1 := size_exact (K := G.kinds.length) (L := L) (x :: l) 0 (Int.le_refl _) (by omega) (by omega)
    have h2 : 0 ≤ sizeF G.kinds.length L 0 l := size_nonneg l 0 (Int.le_refl _) (fun z hz hkz => (h1.2.2 z (List.mem_cons_of_mem _ hz) hkz).1)
    have h4 := h1.1
    simp only [tot, if_neg hk] at h4
    have h5 : sizeF G.kinds.length L 0 l ≤ minF (0 + n) := (size_closed hC hl 0 0 (Int.le_refl _) (minF_le 0).2.1).2
    have h6 := minF_le (0 + n)
    have h3 := size_exact (K := G.kinds.length) (L := L) l 0 (Int.le_refl _) h2 (by omega)
    have h7 : 0 ≤ sizeF G.kinds.length L 0 (rd_T57 G.prods i).f1 ∧ sizeF G.kinds.length L 0 (rd_T57 G.prods i).f1 ≤ minF (0 + m) := size_closed hC hr 0 0 (Int.le_refl _) (minF_le 0).2.1
    have h8 := minF_le (0 + m)
    have h9 := hC i hi h7.1
    rw [hf] at h9
    rcases List.mem_cons.1 hy with rfl | hy
    · have hall := ih1 (hP i hi).2.2.2.syms (by omega) (by omega)
      have hsh := hS i hi
      rw [Shut0, hf] at hsh
      refine Int.not_lt.1 fun hlt => hsh hlt ⟨by rw [hf]; omega, hall⟩
    · exact ih2 (fun z hz => hs z (List.mem_cons_of_mem _ hz)) (by omega) (by omega) y hy hky
end Go.Proofs.Ytdngobjcdajogaa.Gram
namespace Go.Proofs.Ytdngobjcdajogaa.Gram
open Go.RowKit Go.Proofs.YtdngobjcdajogaaW.PrintWords Go.Proofs.YtdngobjcdajogaaW.PrintLast Go.Proofs.YtdngobjcdajogaaW.PrintMore Go.Proofs.Ytdngobjcdajogaa.Fr Go.Proofs.Ytdngobjcdajogaa.PGramFirsts Go.Proofs.Ytdngobjcdajogaa.TextSet
theorem slice_nil (w : World) (a : Addr) (n c : Nat) : (binOp BinOp.eql 27 (.slice (some a) n c) (.slice none 0 0)).run Try.prog w = .ok (.bool false) w := by
  simp only [binOp]
  simp [run_equal_slice_nil w 27 3 (some a) n c Try.underlying27]
set_option maxHeartbeats 2000000 in
set_option maxRecDepth 100000 in
theorem clone_calls (w : World) (gb n cap : Nat) (l : List Int) (h : kI.C w (some ⟨gb, 0, none⟩) l.length l) (hn : n = l.length) (hl : l.length ≤ 1000000) :
    Calls Try.prog 74 #[.slice (some ⟨gb, 0, none⟩) n cap] w fun e w' => ∃ v, e = .returned v ∧ kI.R 3 w' w.heap.size (fun _ => True) v l ∧ Fr (fun _ => False) w w' := by
  have HL0 := Aside0.mk (show kI.R 3 (w.alloc (.cells #[] 3)) w.heap.size (fun _ => True) (.slice (some ⟨w.heap.size, 0, none⟩) 0 0) [] from Kd.R_of_own (own_lit_of w w.heap.size 3 [] (Nat.le_refl _) (by simp)) (fun _ _ => trivial))
  have HF0 := Aside0.mk ((Fr.refl (fun _ => False) w).alloc (.cells #[] 3))
  have HC0 := Aside0.mk (Kd.C_below h HF0.out.to_below)
  have HS := Aside0.mk hn
  have hs0 : w.heap.size ≤ (w.alloc (.cells #[] 3)).heap.size := by simp only [World.size_alloc]; omega
  clear h hn
  have hnil := fun w => slice_nil w ⟨gb, 0, none⟩ n cap
  go_enter Try.func74, Try.ntmps74
  go_wp2_with (first | ((with_reducible refine gate_builtin (b := .append) (xs := #[.tmp 5, .tmp 6]) rfl ?_); at_builtin; refine Kd.R_append_rows kI (w0 := w.alloc (.cells #[] 3)) w.heap.size rfl (.tmp 5) (.tmp 6) 27 3 (.int .i64 0) 8 rfl Try.underlying27 info3 rfl (by decide) (by omega) _ [] l _ n _ (fun _ => True) (fun _ => False) rfl rfl HL0.out (by rw [HS.out]; exact HC0.out) (fun _ _ h => h) (fun _ h => h.elim) (fun _ _ => trivial) (Below.refl _ _) hs0 (by have := HS.out; simp only [List.length_nil]; omega) ?_; intro v1 W1 h1 hb1 hg1 hat1; have H1 := Aside0.mk (show kI.R 3 W1 w.heap.size (fun _ => True) v1 l from h1); have HF1 := Aside0.mk (show Fr (fun _ => False) w W1 from HF0.out.trans (T := fun k => w.heap.size ≤ k) ⟨hg1.os, hg1.tape, hg1.output, hg1.size, fun i hi hn => hg1.block i hi (fun e => hn (Kd.R_base HL0.out i e.symm))⟩ (fun k hk e => by omega)); clear h1 hb1 hg1 hat1))
  go_ret
  exact ⟨_, rfl, H1.out, HF1.out⟩
end Go.Proofs.Ytdngobjcdajogaa.Gram
namespace Go.Proofs.Ytdngobjcdajogaa.Gram
open Go.RowKit Go.Proofs.YtdngobjcdajogaaW.PrintWords Go.Proofs.YtdngobjcdajogaaW.PrintLast Go.Proofs.YtdngobjcdajogaaW.PrintMore Go.Proofs.Ytdngobjcdajogaa.Fr Go.Proofs.Ytdngobjcdajogaa.PGramFirsts Go.Proofs.Ytdngobjcdajogaa.TextSet
/-- Whether all rules of a row were taken. -/
def rankB (K : Nat) (T : List Int) (row : List Int) : Bool := row.all fun x => decide (x < K) || decide (0 ≤ rd T (x - K))
theorem rankB_iff {K : Nat} {T row : List Int} : rankB K T row = true ↔ ∀ x, x ∈ row → ¬ x < K → 0 ≤ rd T (x - K) := by
  simp only [rankB, List.all_eq_true, Bool.or_eq_true, decide_eq_true_eq]
  exact ⟨fun h x hx hk => (h x hx).resolve_left hk, fun h x hx => (Decidable.em (x < (K : Int))).imp id (h x hx)⟩
/-- What becomes of what was taken at production i, in a round that began with T. -/
def stepT (K : Nat) (L T T' : List Int) (p : S57) (i : Nat) : List Int := if rd T' p.f0 < 0 ∧ rankB K T p.f1 = true ∧ sizeF K L 0 p.f1 = rd L p.f0 then T'.set p.f0.toNat i else T'
/-- A round, as far as production i. -/
def passT (G : Gr) (L T : List Int) : Nat → List Int
  | 0 => T
  | i + 1 => stepT G.kinds.length L T (passT G L T i) (rd_T57 G.prods i) i
def iterT (G : Gr) (L : List Int) : Nat → List Int
  | 0 => List.replicate G.rules.length (-1)
  | n + 1 => passT G L (iterT G L n) G.prods.length
/-- What is taken in the end. -/
def TakX (G : Gr) (L T : List Int) : Prop := (∃ n, iterT G L n = T) ∧ passT G L T G.prods.length = T
theorem iterT_more {G : Gr} {L T : List Int} (h : passT G L T G.prods.length = T) {n : Nat} (hn : iterT G L n = T) : ∀ m, iterT G L (n + m) = T
  | 0 => hn
  | m + 1 => by
    show passT G L (iterT G L (n + m)) G.prods.length = T
    rw [iterT_more h hn m, h]
theorem TakX.same {G : Gr} {L T T' : List Int} (h : TakX G L T) (h' : TakX G L T') : T = T' := by
  obtain ⟨⟨n, hn⟩, hp⟩ := h
  obtain ⟨⟨m, hm⟩, hq⟩ := h'
  rcases Nat.le_total n m with hl | hl
  · have := iterT_more hp hn (m - n)
    rw [show n + (m - n) = m by omega] at this
    exact this.symm.trans hm
  · have := iterT_more hq hm (n - m)
    rw [show m + (n - m) = n by omega] at this
    exact hn.symm.trans this
/-- What a round does at a production. -/
structure StepX (K : Nat) (L T T' : List Int) (p : S57) (i : Nat) (P : List Int) : Prop where
  on : 0 ≤ rd T' p.f0 → T' = P
  size : sizeF K L 0 p.f1 ≠ rd L p.f0 → T' = P
  no : (¬ ∀ x, x ∈ p.f1 → ¬ x < K → 0 ≤ rd T (x - K)) → T' = P
  yes : rd T' p.f0 < 0 → sizeF K L 0 p.f1 = rd L p.f0 → (∀ x, x ∈ p.f1 → ¬ x < K → 0 ≤ rd T (x - K)) → T'.set p.f0.toNat i = P
theorem stepX (K : Nat) (L T T' : List Int) (p : S57) (i : Nat) : StepX K L T T' p i (stepT K L T T' p i) := by
  unfold stepT
  refine ⟨fun h => (if_neg fun h2 => by omega).symm, fun h => (if_neg fun h2 => h h2.2.2).symm, fun h => (if_neg fun h2 => h (rankB_iff.1 h2.2.1)).symm, fun h1 h2 h3 => (if_pos ⟨h1, rankB_iff.2 h3, h2⟩).symm⟩
theorem passX {G : Gr} {L T T' : List Int} {i : Nat} (h : T' = passT G L T i) : StepX G.kinds.length L T T' (rd_T57 G.prods i) i (passT G L T (i + 1)) := by
  subst h
  exact stepX _ _ _ _ _ _
end Go.Proofs.Ytdngobjcdajogaa.Gram
