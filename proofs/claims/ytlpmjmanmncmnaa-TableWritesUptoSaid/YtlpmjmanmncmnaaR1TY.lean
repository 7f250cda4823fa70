/-
What the document reads: when a text of bytes is none, and what is known of what is read; in plain Lean.
-/
import Derived.Lib.Bytes
import Derived.Test.YtlpmjmanmncmnaaR1TX
set_option linter.unusedSimpArgs false
set_option linter.unusedVariables false
namespace Go.Proofs.Ytlpmjmanmncmnaa.Tab
open Go.RowKit Go.Maps Go.Proofs.YtlpmjmanmncmnaaW.PrintWords Go.Proofs.YtlpmjmanmncmnaaW.PrintLast Go.Proofs.YtlpmjmanmncmnaaW.PrintMore Go.Proofs.Ytlpmjmanmncmnaa.Fr Go.Proofs.Ytlpmjmanmncmnaa.PT
theorem encM_len : ∀ l : List S48, l.length ≤ (encM l).length
  | [] => Nat.zero_le _
  | x :: l => by
    have h1 := encM_len l
    have h2 := encN_pos x.f0.toNat
    simp only [encM, List.length_append, List.length_cons]
    omega
theorem encG_len : ∀ l : List Int, l.length ≤ (encG l).length
  | [] => Nat.zero_le _
  | x :: l => by
    have h1 := encG_len l
    have h2 := encN_pos (x + 1).toNat
    simp only [encG, List.length_append, List.length_cons]
    omega
theorem encR_len : ∀ (ms : List (List S48)) (gs : List (List Int)), gs.length = ms.length → (∀ l, l ∈ ms → 0 < l.length) → ms.length ≤ (encR ms gs).length
  | [], gs, _, _ => Nat.zero_le _
  | m :: ms, g :: gs, h, hm => by
    have h1 := encR_len ms gs (by simpa using h) (fun l hl => hm l (List.mem_cons_of_mem _ hl))
    have h2 := encM_len m
    have h3 := hm m (List.mem_cons_self ..)
    simp only [encR, List.length_append, List.length_cons]
    omega
theorem encT_lens {T : Tb} (h : WrOk T) : T.mv.length ≤ (encT T).length ∧ (rd_L2 T.mv 0).length ≤ (encT T).length ∧ (rd_L3 T.gt 0).length ≤ (encT T).length := by
  obtain ⟨hE, _, _⟩ := h
  obtain ⟨m, g⟩ := T
  obtain ⟨h0, h1, h2, h3⟩ := hE
  match m, g, h0, h2 with
  | a :: ms, c :: gs, h0, h2 =>
    have e1 : rd_L2 (a :: ms) 0 = a := rfl
    have e2 : rd_L3 (c :: gs) 0 = c := rfl
    have hl := encR_len (a :: ms) (c :: gs) h2 (fun l hl => by
      obtain ⟨s, hs, rfl⟩ := mem_L2.1 hl
      have := (h3 s hs).1
      simp only at this h1
      omega)
    have ha := encM_len a
    have hc := encG_len c
    simp only [encT, e1, e2, List.length_append]
    have e3 : (encR (a :: ms) (c :: gs)).length = (encM a).length + ((encG c).length + (encR ms gs).length) := by simp only [encR, List.length_append]
    simp only [List.length_cons] at hl ⊢
    omega
/-- A head that tells more than there are bytes is no table's. -/
theorem big_none {b r1 r2 r3 : List Int} {n K Q : Nat} (hb : Bts b) (h1 : numOf b = some ((n : Int), r1)) (h2 : numOf r1 = some ((K : Int), r2)) (h3 : numOf r2 = some ((Q : Int), r3)) (h : b.length < n ∨ b.length < K ∨ b.length < Q) : IsRead b none := fun T => by
  constructor
  · intro e
    cases e
  · rintro ⟨hw, n1, n2, n3, rfl⟩
    have hl := encT_lens hw
    rw [encT, numOf_enc _ _ n1] at h1
    injection h1 with h1
    injection h1 with e1 e2
    rw [← e2, numOf_enc _ _ n2] at h2
    injection h2 with h2
    injection h2 with e3 e4
    rw [← e4, numOf_enc _ _ n3] at h3
    injection h3 with h3
    injection h3 with e5 e6
    omega
/-- What is known of what is read. -/
theorem readP_facts {b l : List Int} {T : Tb} (hb : Bts b) (h : readP b = some (T, l)) : (T.mv.length : Int) ≤ mostN ∧ T.gt.length = T.mv.length ∧ (∃ kinds rules : Nat, (kinds : Int) ≤ mostN ∧ (rules : Int) ≤ mostN ∧ RowsOk kinds rules T) ∧ (encR T.mv T.gt).length ≤ b.length := by
  rw [readP] at h
  obtain ⟨⟨n, l0⟩, e0, ha⟩ := Option.bind_eq_some_iff.1 h
  obtain ⟨⟨k, l1⟩, e1, hc⟩ := Option.bind_eq_some_iff.1 ha
  obtain ⟨⟨q, l2⟩, e2, hd⟩ := Option.bind_eq_some_iff.1 hc
  clear h ha hc
  simp only at e1 e2 hd
  obtain ⟨n, rfl, n2, rfl⟩ := numOf_some hb e0
  obtain ⟨k, rfl, k2, rfl⟩ := numOf_some hb.right e1
  obtain ⟨q, rfl, q2, rfl⟩ := numOf_some hb.right.right e2
  simp only [Int.toNat_natCast] at hd
  obtain ⟨c1, c2, c3, c4⟩ := (pR_iff k q n l2 T l hb.right.right.right).1 hd
  refine ⟨by omega, by omega, ⟨k, q, k2, q2, c3⟩, ?_⟩
  rw [c4]
  simp only [List.length_append]
  omega
theorem readP_tok {b l : List Int} {T : Tb} (hb : Bts b) (h : readP b = some (T, l)) (hl : b.length + 15 < 140737488355328) : TOk T ∧ (encT T).length < 140737488355328 := by
  obtain ⟨h1, h2, ⟨kinds, rules, h3, h4, h5, h6⟩, h7⟩ := readP_facts hb h
  simp only [mostN] at h1 h3 h4
  have hr : ∀ s : Nat, s < T.mv.length → (rd_L2 T.mv s).length = kinds := fun s hs => (h5 _ (mem_L2.2 ⟨s, hs, rfl⟩)).1
  have hg : ∀ s : Nat, s < T.gt.length → (rd_L3 T.gt s).length = rules := fun s hs => (h6 _ (mem_L3.2 ⟨s, hs, rfl⟩)).1
  refine ⟨⟨by omega, by omega, fun s hs => ⟨by have := hr s hs; omega, fun x hx => ?_⟩, fun s hs => by have := hg s hs; omega⟩, ?_⟩
  · have hx2 := (h5 _ (mem_L2.2 ⟨s, hs, rfl⟩)).2 x hx
    obtain ⟨_, _, h8, h9⟩ := hx2
    simp only [mostN] at h9
    exact WalkArith.wf_i64 (by omega)
  · have l1 := encN_len 4 T.mv.length (by omega)
    have l2 : (encN (rd_L2 T.mv 0).length).length ≤ 5 := encN_len 4 _ (by
      by_cases c : 0 < T.mv.length
      · have := hr 0 c
        simp only [Int.natCast_zero] at this
        omega
      · have : T.mv = [] := List.length_eq_zero_iff.1 (by omega)
        rw [this]
        decide)
    have l3 : (encN (rd_L3 T.gt 0).length).length ≤ 5 := encN_len 4 _ (by
      by_cases c : 0 < T.gt.length
      · have := hg 0 c
        simp only [Int.natCast_zero] at this
        omega
      · have : T.gt = [] := List.length_eq_zero_iff.1 (by omega)
        rw [this]
        decide)
    simp only [encT, List.length_append]
    omega
/-- What is read and written again as it was is the table. -/
theorem acc_some {b l c : List Int} {T : Tb} {e : Int} (hb : Bts b) (h : readP b = some (T, l)) (hB : IsBytes T (c, e)) (he : e = 0) (hc : c = b) : IsRead b (some T) := by
  have hw : WrOk T := Classical.byContradiction fun hn => by
    have := hB.no hn
    injection this with _ h2
    omega
  have hcb := hB.ok hw
  injection hcb with hcb _
  obtain ⟨h1, h2, ⟨kinds, rules, h3, h4, h5, h6⟩, _⟩ := readP_facts hb h
  have h0 := hw.1.1
  have hg0 := hw.1.2.2.1
  have e1 := (h5 _ (mem_L2.2 ⟨0, h0, rfl⟩)).1
  have e2 := (h6 _ (mem_L3.2 ⟨0, by omega, rfl⟩)).1
  simp only [Int.natCast_zero] at e1 e2
  have good : WrOk T ∧ (T.mv.length : Int) ≤ mostN ∧ ((rd_L2 T.mv 0).length : Int) ≤ mostN ∧ ((rd_L3 T.gt 0).length : Int) ≤ mostN ∧ encT T = b := ⟨hw, h1, by rw [e1]; exact h3, by rw [e2]; exact h4, hcb.symm.trans hc⟩
  intro T'
  constructor
  · intro e
    injection e with e
    subst e
    exact good
  · intro g
    obtain ⟨a1, _⟩ := (readP_good hb T').2 g
    obtain ⟨a2, _⟩ := (readP_good hb T).2 good
    rw [a1] at a2
    injection a2 with a2
    injection a2 with a2 _
    rw [a2]
theorem acc_none {b l c : List Int} {T : Tb} {e : Int} (hb : Bts b) (h : readP b = some (T, l)) (hB : IsBytes T (c, e)) (hn : e ≠ 0 ∨ c ≠ b) : IsRead b none := fun T' => by
  constructor
  · intro e
    cases e
  · intro g
    obtain ⟨a1, _⟩ := (readP_good hb T').2 g
    rw [h] at a1
    injection a1 with a1
    injection a1 with a1 _
    subst a1
    have := hB.ok g.1
    injection this with h1 h2
    rcases hn with hn | hn
    · exact absurd h2 hn
    · exact absurd (h1.trans g.2.2.2.2) hn
/-- Texts of the same bytes. -/
theorem str_eq {a b : List Int} (ha : Bts a) (hb : Bts b) : ((strOfNums a).toList = (strOfNums b).toList) ↔ a = b := by
  constructor
  · intro h
    rw [Go.Lib.strOfNums_toList, Go.Lib.strOfNums_toList] at h
    have key : ∀ (a b : List Int), Bts a → Bts b → Go.Lib.bytesOf a = Go.Lib.bytesOf b → a = b := by
      intro a
      induction a with
      | nil =>
        intro b _ _ h
        cases b with
        | nil => rfl
        | cons y b => simp [Go.Lib.bytesOf] at h
      | cons x a ih =>
        intro b ha hb h
        cases b with
        | nil => simp [Go.Lib.bytesOf] at h
        | cons y b =>
          simp only [Go.Lib.bytesOf, List.map_cons] at h
          injection h with h1 h2
          have hx := ha x (List.mem_cons_self ..)
          have hy := hb y (List.mem_cons_self ..)
          have e : x = y := by
            have h3 := congrArg UInt8.toNat h1
            simp only [UInt8.toNat_ofNat'] at h3
            omega
          rw [e, ih b (fun z hz => ha z (List.mem_cons_of_mem _ hz)) (fun z hz => hb z (List.mem_cons_of_mem _ hz)) h2]
    exact key a b ha hb h
  · intro h
    rw [h]
theorem encM_bts : ∀ l : List S48, Bts (encM l)
  | [] => fun x hx => by cases hx
  | x :: l => fun y hy => by
    simp only [encM, List.mem_append] at hy
    rcases hy with h | h | h
    · exact encN_bytes _ _ h
    · exact encN_bytes _ _ h
    · exact encM_bts l y h
theorem encG_bts : ∀ l : List Int, Bts (encG l)
  | [] => fun x hx => by cases hx
  | x :: l => fun y hy => by
    simp only [encG, List.mem_append] at hy
    rcases hy with h | h
    · exact encN_bytes _ _ h
    · exact encG_bts l y h
theorem encR_bts : ∀ (ms : List (List S48)) (gs : List (List Int)), Bts (encR ms gs)
  | [], gs => fun x hx => by cases gs <;> cases hx
  | m :: ms, [] => fun x hx => by cases hx
  | m :: ms, g :: gs => fun y hy => by
    simp only [encR, List.mem_append] at hy
    rcases hy with h | h | h
    · exact encM_bts _ _ h
    · exact encG_bts _ _ h
    · exact encR_bts ms gs y h
theorem encT_bts (T : Tb) : Bts (encT T) := fun y hy => by
  simp only [encT, List.mem_append] at hy
  rcases hy with h | h | h | h
  · exact encN_bytes _ _ h
  · exact encN_bytes _ _ h
  · exact encN_bytes _ _ h
  · exact encR_bts _ _ _ h
theorem isBytes_bts {T : Tb} {c : List Int} {e : Int} (h : IsBytes T (c, e)) : Bts c := by
  by_cases hw : WrOk T
  · have := h.ok hw
    injection this with h1 _
    rw [h1]
    exact encT_bts T
  · have := h.no hw
    injection this with h1 _
    rw [h1]
    exact fun x hx => by cases hx
end Go.Proofs.Ytlpmjmanmncmnaa.Tab
