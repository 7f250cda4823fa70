/-
Heaps of tasks: what container/heap makes of them. Plain lists.
-/
import Derived.Test.YtpjhflimaiaokaaHE
namespace Go.Proofs.Ytpjhflimaiaokaa.Heaps
open Go.Proofs.Ytpjhflimaiaokaa.Sets (isNum)
open Go.Proofs.Ytpjhflimaiaokaa.Hand (Tk less swapT swapT_length upF upF_zero upF_stay upF_go downF downF_end downF_len fixF pushF popF lPopF upF_len PushSpec RPush RPop LeastAt less_self)

/-- a is not behind b. -/
def L (a b : Tk) : Prop := less b a = false
theorem L_refl (a : Tk) : L a a := less_self a
theorem L_trans {a b c : Tk} (h1 : L a b) (h2 : L b c) : L a c := by
  simp only [L, less, Bool.or_eq_false_iff, Bool.and_eq_false_iff, decide_eq_false_iff_not] at *
  omega
theorem L_of_less {a b : Tk} (h : less a b = true) : L a b := by
  simp only [L, less, Bool.or_eq_true, Bool.and_eq_true, decide_eq_true_eq, Bool.or_eq_false_iff, Bool.and_eq_false_iff, decide_eq_false_iff_not] at *
  omega
theorem L_antisymm {a b : Tk} (h1 : L a b) (h2 : L b a) : a = b := by
  have : a.n = b.n ∧ a.w = b.w := by
    simp only [L, less, Bool.or_eq_false_iff, Bool.and_eq_false_iff, decide_eq_false_iff_not] at *
    omega
  cases a; cases b; simp_all

abbrev at_ (ts : List Tk) (i : Nat) : Tk := ts.getD i Tk.z
theorem swap_at (ts : List Tk) {i j : Nat} (hi : i < ts.length) (hj : j < ts.length) (k : Nat) : at_ (swapT ts i j) k = if k = j then at_ ts i else if k = i then at_ ts j else at_ ts k := by
  simp only [at_, swapT, List.getD_eq_getElem?_getD, List.getElem?_set, List.length_set]
  by_cases h1 : k = j
  · subst h1; simp [hj]
  · have h1' : ¬ j = k := fun e => h1 e.symm
    by_cases h2 : k = i
    · subst h2; simp [h1, h1', hi]
    · have h2' : ¬ i = k := fun e => h2 e.symm
      simp [h1, h2, h1', h2']
theorem swap_perm (ts : List Tk) {i j : Nat} (hi : i < ts.length) (hj : j < ts.length) : (swapT ts i j).Perm ts := by
  have := List.set_set_perm hi hj
  simpa [swapT, List.getD_eq_getElem?_getD, hi, hj] using this

/-- Of the first n tasks none stands ahead of the one above it. -/
def Heap (ts : List Tk) (n : Nat) : Prop := ∀ c, 0 < c → c < n → L (at_ ts ((c - 1) / 2)) (at_ ts c)
structure UpOk (ts : List Tk) (j : Nat) : Prop where
  rest : ∀ c, 0 < c → c < ts.length → c ≠ j → L (at_ ts ((c - 1) / 2)) (at_ ts c)
  over : 0 < j → ∀ c, 0 < c → c < ts.length → (c - 1) / 2 = j → L (at_ ts ((j - 1) / 2)) (at_ ts c)
theorem up_heap (j : Nat) : ∀ ts : List Tk, j < ts.length → UpOk ts j → Heap (upF ts j) ts.length := by
  induction j using Nat.strongRecOn with
  | _ j ih =>
    intro ts hj h
    by_cases h0 : j = 0
    · subst h0
      rw [upF_zero]
      exact fun c hc hcl => h.rest c hc hcl (by omega)
    · cases hl : less (at_ ts j) (at_ ts ((j - 1) / 2)) with
      | false =>
        rw [upF_stay h0 hl]
        intro c hc hcl
        by_cases e : c = j
        · rw [e]; exact hl
        · exact h.rest c hc hcl e
      | true =>
        rw [upF_go h0 hl]
        have hp : (j - 1) / 2 < ts.length := by omega
        have hpj : (j - 1) / 2 ≠ j := by omega
        have := ih ((j - 1) / 2) (by omega) (swapT ts ((j - 1) / 2) j) (by rw [swapT_length]; exact hp) ?_
        · rw [swapT_length] at this; exact this
        refine ⟨fun c hc hcl hcp => ?_, fun hp0 c hc hcl hcc => ?_⟩
        · rw [swapT_length] at hcl
          rw [swap_at ts hp hj, swap_at ts hp hj]
          by_cases e1 : c = j
          · subst e1
            rw [if_pos rfl, if_neg hpj, if_pos rfl]
            exact L_of_less hl
          · rw [if_neg e1, if_neg hcp]
            by_cases e2 : (c - 1) / 2 = j
            · rw [if_pos e2]
              exact h.over (by omega) c hc hcl e2
            · rw [if_neg e2]
              by_cases e3 : (c - 1) / 2 = (j - 1) / 2
              · rw [if_pos e3]
                have := h.rest c hc hcl e1
                rw [e3] at this
                exact L_trans (L_of_less hl) this
              · rw [if_neg e3]
                exact h.rest c hc hcl e1
        · rw [swapT_length] at hcl
          rw [swap_at ts hp hj, swap_at ts hp hj]
          have hq := h.rest ((j - 1) / 2) hp0 hp (by omega)
          rw [if_neg (by omega), if_neg (by omega)]
          by_cases e1 : c = j
          · rw [if_pos e1]; exact hq
          · rw [if_neg e1, if_neg (by omega)]
            have := h.rest c hc hcl e1
            rw [hcc] at this
            exact L_trans hq this
theorem up_perm (ts : List Tk) (j : Nat) (hj : j < ts.length) : (upF ts j).Perm ts := by
  induction j using Nat.strongRecOn generalizing ts with
  | _ j ih =>
    by_cases h0 : j = 0
    · subst h0; rw [upF_zero]
    · cases hl : less (at_ ts j) (at_ ts ((j - 1) / 2)) with
      | false => rw [upF_stay h0 hl]
      | true =>
        rw [upF_go h0 hl]
        exact (ih ((j - 1) / 2) (by omega) _ (by rw [swapT_length]; omega)).trans (swap_perm ts (by omega) hj)

structure DownOk (ts : List Tk) (n i : Nat) : Prop where
  rest : ∀ c, 0 < c → c < n → (c - 1) / 2 ≠ i → L (at_ ts ((c - 1) / 2)) (at_ ts c)
  over : 0 < i → ∀ c, 0 < c → c < n → (c - 1) / 2 = i → L (at_ ts ((i - 1) / 2)) (at_ ts c)
/-- One step of the way down: the task at i changes its place with its lesser one below. -/
theorem DownOk.step {ts : List Tk} {n i j : Nat} (h : DownOk ts n i) (hn : n ≤ ts.length) (hj : j = 2 * i + 1 ∨ j = 2 * i + 2) (hjn : j < n) (hl : less (at_ ts j) (at_ ts i) = true)
    (hmin : ∀ c, c < n → (c = 2 * i + 1 ∨ c = 2 * i + 2) → L (at_ ts j) (at_ ts c)) : DownOk (swapT ts i j) n j := by
  have hi : i < ts.length := by omega
  have hjl : j < ts.length := by omega
  have hij : i ≠ j := by omega
  refine ⟨fun c hc hcn hcj => ?_, fun _ c hc hcn hcj => ?_⟩
  · rw [swap_at ts hi hjl, swap_at ts hi hjl]
    rw [if_neg hcj]
    by_cases e1 : (c - 1) / 2 = i
    · rw [if_pos e1]
      by_cases e2 : c = j
      · rw [if_pos e2]; exact L_of_less hl
      · rw [if_neg e2, if_neg (by omega)]
        exact hmin c hcn (by omega)
    · rw [if_neg e1]
      rw [if_neg (by rcases hj with rfl | rfl <;> omega)]
      by_cases e3 : c = i
      · rw [if_pos e3]
        subst e3
        exact h.over hc j (by omega) hjn (by rcases hj with rfl | rfl <;> omega)
      · rw [if_neg e3]
        exact h.rest c hc hcn e1
  · rw [swap_at ts hi hjl, swap_at ts hi hjl]
    have e1 : (j - 1) / 2 = i := by rcases hj with rfl | rfl <;> omega
    rw [e1, if_neg hij, if_pos rfl, if_neg (by omega), if_neg (by omega)]
    have := h.rest c hc hcn (by omega)
    rwa [hcj] at this
theorem down_heap (ts : List Tk) (n i : Nat) : n ≤ ts.length → DownOk ts n i → Heap (downF ts n i).1 n ∧ (downF ts n i).1.Perm ts ∧ ∀ k, n ≤ k → at_ (downF ts n i).1 k = at_ ts k := by
  fun_induction downF ts n i with
  | case1 ts i h1 h2 h3 ih =>
    intro hn h
    have hs := h.step hn (.inr rfl) h2.1 h3 (fun c hc hcc => by
      rcases hcc with rfl | rfl
      · exact L_of_less h2.2
      · exact L_refl _)
    obtain ⟨a, b, c⟩ := ih (by rw [swapT_length]; exact hn) hs
    exact ⟨a, b.trans (swap_perm ts (by omega) (by omega)), fun k hk => by rw [c k hk, swap_at ts (by omega) (by omega), if_neg (by omega), if_neg (by omega)]⟩
  | case2 ts i h1 h2 h3 =>
    intro hn h
    refine ⟨fun c hc hcn => ?_, .refl _, fun _ _ => rfl⟩
    by_cases e : (c - 1) / 2 = i
    · rw [e]
      have h3' : L (at_ ts i) (at_ ts (2 * i + 2)) := by simpa [L] using h3
      rcases (show c = 2 * i + 1 ∨ c = 2 * i + 2 by omega) with rfl | rfl
      · exact L_trans h3' (L_of_less h2.2)
      · exact h3'
    · exact h.rest c hc hcn e
  | case3 ts i h1 h2 h3 ih =>
    intro hn h
    have hs := h.step hn (.inl rfl) h1 h3 (fun c hc hcc => by
      rcases hcc with rfl | rfl
      · exact L_refl _
      · have : ¬ less (at_ ts (2 * i + 2)) (at_ ts (2 * i + 1)) = true := fun e => h2 ⟨hc, e⟩
        simpa [L] using this)
    obtain ⟨a, b, c⟩ := ih (by rw [swapT_length]; exact hn) hs
    exact ⟨a, b.trans (swap_perm ts (by omega) (by omega)), fun k hk => by rw [c k hk, swap_at ts (by omega) (by omega), if_neg (by omega), if_neg (by omega)]⟩
  | case4 ts i h1 h2 h3 =>
    intro hn h
    refine ⟨fun c hc hcn => ?_, .refl _, fun _ _ => rfl⟩
    by_cases e : (c - 1) / 2 = i
    · rw [e]
      have h3' : L (at_ ts i) (at_ ts (2 * i + 1)) := by simpa [L] using h3
      rcases (show c = 2 * i + 1 ∨ c = 2 * i + 2 by omega) with rfl | rfl
      · exact h3'
      · have h4 : ¬ less (at_ ts (2 * i + 2)) (at_ ts (2 * i + 1)) = true := fun e => h2 ⟨hcn, e⟩
        have h4' : L (at_ ts (2 * i + 1)) (at_ ts (2 * i + 2)) := by simpa [L] using h4
        exact L_trans h3' h4'
    · exact h.rest c hc hcn e
  | case5 ts i h1 =>
    intro hn h
    refine ⟨fun c hc hcn => ?_, .refl _, fun _ _ => rfl⟩
    exact h.rest c hc hcn (by omega)

/-- A heap of tasks no two of which have one number. -/
structure Hp (ts : List Tk) : Prop where
  heap : Heap ts ts.length
theorem Hp.least {ts : List Tk} (h : Hp ts) : ∀ i, i < ts.length → L (at_ ts 0) (at_ ts i) := by
  intro i
  induction i using Nat.strongRecOn with
  | _ i ih =>
    intro hi
    by_cases h0 : i = 0
    · subst h0; exact L_refl _
    · exact L_trans (ih ((i - 1) / 2) (by omega) (by omega)) (h.heap i (by omega) hi)
theorem at_append_lt {ts : List Tk} {x : Tk} {i : Nat} (h : i < ts.length) : at_ (ts ++ [x]) i = at_ ts i := by simp [at_, List.getD_eq_getElem?_getD, List.getElem?_append_left h]
theorem push_hp {ts : List Tk} (h : Hp ts) (x : Tk) : Hp (pushF ts x) ∧ (pushF ts x).Perm (x :: ts) := by
  have hl : (ts ++ [x]).length = ts.length + 1 := by simp
  have hu : UpOk (ts ++ [x]) ts.length := ⟨fun c hc hcl hcn => by
    rw [hl] at hcl
    rw [at_append_lt (show c < ts.length by omega), at_append_lt (show (c - 1) / 2 < ts.length by omega)]
    exact h.heap c hc (by omega), fun _ c hc hcl hcc => by omega⟩
  have h1 := up_heap ts.length (ts ++ [x]) (by omega) hu
  refine ⟨⟨by unfold pushF; rw [upF_len]; exact h1⟩, ?_⟩
  unfold pushF
  exact (up_perm _ _ (by omega)).trans (List.perm_append_comm.trans (by simp))
theorem take_snoc_at {d : List Tk} {n : Nat} (h : d.length = n + 1) : d = d.take n ++ [at_ d n] := by
  have h1 : d.take (n + 1) = d := List.take_of_length_le (by omega)
  have h2 : d.take (n + 1) = d.take n ++ [d[n]'(by omega)] := List.take_succ_eq_append_getElem (by omega)
  have h3 : at_ d n = d[n]'(by omega) := by simp [at_, List.getD_eq_getElem?_getD, h]
  rw [h3, ← h2, h1]
theorem heap_take {d : List Tk} {n : Nat} (h : Heap d n) (hn : n ≤ d.length) : Hp (d.take n) := by
  refine ⟨fun c hc hcl => ?_⟩
  have hcl' : c < n := by rw [List.length_take] at hcl; omega
  have e : ∀ k, k < n → at_ (d.take n) k = at_ d k := fun k hk => by simp [at_, List.getD_eq_getElem?_getD, hk]
  rw [e c hcl', e _ (by omega)]
  exact h c hc hcl'
theorem pop_hp {ts : List Tk} (h : Hp ts) (hp : 0 < ts.length) : (popF ts).1 = at_ ts 0 ∧ Hp (popF ts).2 ∧ ((popF ts).1 :: (popF ts).2).Perm ts := by
  obtain ⟨n, hn⟩ : ∃ n, ts.length = n + 1 := ⟨ts.length - 1, by omega⟩
  have hd : DownOk (swapT ts 0 n) n 0 := ⟨fun c hc hcn hcc => by
    rw [swap_at ts hp (by omega), swap_at ts hp (by omega), if_neg (by omega), if_neg hcc, if_neg (by omega), if_neg (by omega)]
    exact h.heap c hc (by omega), fun h0 => absurd h0 (Nat.lt_irrefl 0)⟩
  obtain ⟨h1, h2, h3⟩ := down_heap (swapT ts 0 n) n 0 (by rw [swapT_length]; omega) hd
  have hl : (downF (swapT ts 0 n) n 0).1.length = n + 1 := by rw [downF_len, swapT_length, hn]
  have e1 : (popF ts).1 = at_ (downF (swapT ts 0 n) n 0).1 n := by unfold popF; rw [hn]; rfl
  have e2 : (popF ts).2 = (downF (swapT ts 0 n) n 0).1.take n := by unfold popF; rw [hn]; rfl
  have e3 : (popF ts).1 = at_ ts 0 := by rw [e1, h3 n (Nat.le_refl n), swap_at ts hp (by omega), if_pos rfl]
  refine ⟨e3, by rw [e2]; exact heap_take h1 (by omega), ?_⟩
  rw [e1, e2]
  have h4 : (downF (swapT ts 0 n) n 0).1.Perm ts := h2.trans (swap_perm ts hp (by omega))
  refine List.Perm.trans ?_ h4
  conv => rhs; rw [take_snoc_at hl]
  exact (List.perm_append_comm.trans (by simp)).symm
theorem set_at (ts : List Tk) {i : Nat} (hi : i < ts.length) (t : Tk) (k : Nat) : at_ (ts.set i t) k = if k = i then t else at_ ts k := by
  simp only [at_, List.getD_eq_getElem?_getD, List.getElem?_set]
  by_cases h : k = i
  · subst h; simp [hi]
  · have h' : ¬ i = k := fun e => h e.symm
    simp [h, h']
theorem fix_hp {ts : List Tk} (h : Hp ts) {i : Nat} (hi : i < ts.length) {t : Tk} (ht : L t (at_ ts i)) : Hp (fixF (ts.set i t) i) ∧ (fixF (ts.set i t) i).Perm (ts.set i t) := by
  have hch : ∀ c, c < ts.length → (c = 2 * i + 1 ∨ c = 2 * i + 2) → less (at_ (ts.set i t) c) (at_ (ts.set i t) i) = false := by
    intro c hc hcc
    rw [set_at ts hi, set_at ts hi, if_neg (by omega), if_pos rfl]
    have := h.heap c (by omega) hc
    rw [show (c - 1) / 2 = i by omega] at this
    exact L_trans ht this
  have hdn : downF (ts.set i t) (ts.set i t).length i = (ts.set i t, i) := by
    rw [List.length_set, downF]
    by_cases h1 : 2 * i + 1 < ts.length
    · rw [dif_pos h1]
      split
      · rename_i h2
        rw [hch _ h2.1 (.inr rfl)]; rfl
      · rw [hch _ h1 (.inl rfl)]; rfl
    · rw [dif_neg h1]
  have hfx : fixF (ts.set i t) i = upF (ts.set i t) i := by unfold fixF; rw [hdn]; simp
  have hl : (ts.set i t).length = ts.length := List.length_set ..
  have hu : UpOk (ts.set i t) i := ⟨fun c hc hcl hci => by
    rw [hl] at hcl
    rw [set_at ts hi, set_at ts hi, if_neg hci]
    by_cases e : (c - 1) / 2 = i
    · rw [if_pos e]
      have := h.heap c hc hcl
      rw [e] at this
      exact L_trans ht this
    · rw [if_neg e]; exact h.heap c hc hcl, fun h0 c hc hcl hcc => by
    rw [hl] at hcl
    rw [set_at ts hi, set_at ts hi, if_neg (by omega), if_neg (by omega)]
    have h1 := h.heap c hc hcl
    rw [hcc] at h1
    exact L_trans (h.heap i h0 hi) h1⟩
  refine ⟨⟨?_⟩, ?_⟩
  · rw [hfx, upF_len]
    exact up_heap i _ (by rw [hl]; exact hi) hu
  · rw [hfx]; exact up_perm _ _ (by rw [hl]; exact hi)

/-- The heap ts and the reference's list us hold the same tasks; no two have one number, and each number may be. -/
structure Same (ts us : List Tk) : Prop where
  hp : Hp ts
  perm : ts.Perm us
  nodup : (us.map Tk.n).Nodup
  num : ∀ t, t ∈ us → isNum t.n = true
theorem same_nil : Same [] [] := ⟨⟨fun c _ h => absurd h (Nat.not_lt_zero c)⟩, .refl _, by simp, by simp⟩
theorem Same.len {ts us : List Tk} (h : Same ts us) : ts.length = us.length := h.perm.length_eq
theorem nodup_sub : ∀ (l m : List Int), l.Nodup → (∀ x, x ∈ l → x ∈ m) → l.length ≤ m.length
  | [], _, _, _ => Nat.zero_le _
  | x :: l, m, h, hs => by
    rw [List.nodup_cons] at h
    have hx := hs x (List.mem_cons_self ..)
    have := nodup_sub l (m.erase x) h.2 (fun y hy => (List.mem_erase_of_ne (fun e => h.1 (by rw [← e]; exact hy))).2 (hs y (List.mem_cons_of_mem _ hy)))
    rw [List.length_erase_of_mem hx] at this
    have := List.length_pos_of_mem hx
    simp only [List.length_cons]
    omega
theorem nodup_le (l : List Int) (h : l.Nodup) (hn : ∀ x, x ∈ l → isNum x = true) : l.length ≤ 1048576 := by
  have := nodup_sub l ((List.range 1048576).map (fun k : Nat => (k : Int))) h (fun x hx => by
    have := hn x hx
    simp only [isNum, decide_eq_true_eq] at this
    exact List.mem_map.2 ⟨x.toNat, List.mem_range.2 (by omega), by omega⟩)
  rwa [List.length_map, List.length_range] at this
theorem Same.le {ts us : List Tk} (h : Same ts us) : us.length ≤ 1048576 := by
  have := nodup_le (us.map Tk.n) h.nodup (fun x hx => by obtain ⟨t, ht, rfl⟩ := List.mem_map.1 hx; exact h.num t ht)
  simpa using this
theorem mem_at {ts : List Tk} {i : Nat} (hi : i < ts.length) : at_ ts i ∈ ts := by
  simp [at_, List.getD_eq_getElem?_getD, hi]
theorem at_of_mem {ts : List Tk} {t : Tk} (h : t ∈ ts) : ∃ i, i < ts.length ∧ at_ ts i = t := by
  obtain ⟨i, hi, e⟩ := List.mem_iff_getElem.1 h
  exact ⟨i, hi, by simp [at_, List.getD_eq_getElem?_getD, hi, e]⟩
/-- Tasks of one number are one. -/
theorem one_of {us : List Tk} (h : (us.map Tk.n).Nodup) {a b : Tk} (ha : a ∈ us) (hb : b ∈ us) (e : a.n = b.n) : a = b := by
  induction us with
  | nil => cases ha
  | cons u us ih =>
    rw [List.map_cons, List.nodup_cons] at h
    rcases List.mem_cons.1 ha with ha1 | ha1
    · rcases List.mem_cons.1 hb with hb1 | hb1
      · rw [ha1, hb1]
      · exact absurd (by rw [← ha1, e]; exact List.mem_map_of_mem hb1) h.1
    · rcases List.mem_cons.1 hb with hb1 | hb1
      · exact absurd (by rw [← hb1, ← e]; exact List.mem_map_of_mem ha1) h.1
      · exact ih h.2 ha1 hb1
theorem set_perm {ts : List Tk} {i : Nat} (hi : i < ts.length) (t : Tk) : (at_ ts i :: ts.set i t).Perm (t :: ts) := by
  have e1 : ts = ts.take i ++ at_ ts i :: ts.drop (i + 1) := by
    have h3 : at_ ts i = ts[i] := by simp [at_, List.getD_eq_getElem?_getD, hi]
    rw [h3, List.getElem_cons_drop, List.take_append_drop]
  have e2 : ts.set i t = ts.take i ++ t :: ts.drop (i + 1) := List.set_eq_take_append_cons_drop.trans (by rw [if_pos hi])
  rw [e2]
  refine (List.Perm.cons _ List.perm_middle).trans ((List.Perm.swap _ _ _).trans (List.Perm.cons _ ?_))
  conv => rhs; rw [e1]
  exact List.perm_middle.symm

theorem map_n_set {us : List Tk} {i : Nat} {n x : Int} (hi : i < us.length) (he : (at_ us i).n = n) : (us.set i ⟨n, x⟩).map Tk.n = us.map Tk.n := by
  rw [List.map_set]
  apply List.ext_getElem?
  intro k
  rw [List.getElem?_set]
  by_cases h : i = k
  · subst h
    have : (us.map Tk.n)[i]? = some n := by
      rw [List.getElem?_map, List.getElem?_eq_getElem hi]
      simp only [Option.map_some]
      rw [← he]; simp [at_, List.getD_eq_getElem?_getD, hi]
    rw [this]; simp [hi]
  · rw [if_neg h]
/-- Both lists answer a Push alike, and hold the same behind it. -/
theorem Same.push {ts us : List Tk} (h : Same ts us) {n x : Int} {b b' : Bool} {k k' : Int} {ts' us' : List Tk} (hp : PushSpec ts n x b k ts') (hr : RPush us n x b' k' us') : b = b' ∧ k = k' ∧ Same ts' us' := by
  have key : ∀ i j, i < ts.length → j < us.length → (at_ ts i).n = n → (at_ us j).n = n → at_ ts i = at_ us j := fun i j hi hj h1 h2 =>
    one_of h.nodup (h.perm.subset (mem_at hi)) (mem_at hj) (by rw [h1, h2])
  have no : ∀ i, i < ts.length → (at_ ts i).n = n → ∃ j, j < us.length ∧ (at_ us j).n = n := fun i hi e => by
    obtain ⟨j, hj, e2⟩ := at_of_mem (h.perm.subset (mem_at hi))
    exact ⟨j, hj, by rw [e2]; exact e⟩
  have no' : ∀ j, j < us.length → (at_ us j).n = n → ∃ i, i < ts.length ∧ (at_ ts i).n = n := fun j hj e => by
    obtain ⟨i, hi, e2⟩ := at_of_mem (h.perm.symm.subset (mem_at hj))
    exact ⟨i, hi, by rw [e2]; exact e⟩
  cases hp with
  | bad h1 =>
    cases hr with
    | bad _ => exact ⟨rfl, rfl, h⟩
    | there j h2 => rw [h1] at h2; cases h2
    | lighter j h2 => rw [h1] at h2; cases h2
    | new h2 => rw [h1] at h2; cases h2
  | there i h1 hi he hle =>
    cases hr with
    | bad h2 => rw [h1] at h2; cases h2
    | there j _ _ _ _ => exact ⟨rfl, rfl, h⟩
    | lighter j h2 hj he2 hlt =>
      have e : at_ ts i = at_ us j := key i j hi hj he he2
      exact absurd (by show x < (at_ ts i).w; rw [e]; exact hlt) hle
    | new h2 hno =>
      obtain ⟨j, hj, e⟩ := no i hi he
      exact absurd e (hno j hj)
  | lighter i h1 hi he hlt =>
    cases hr with
    | bad h2 => rw [h1] at h2; cases h2
    | there j h2 hj he2 hle =>
      have e : at_ ts i = at_ us j := key i j hi hj he he2
      exact absurd (by show x < (at_ us j).w; rw [← e]; exact hlt) hle
    | lighter j h2 hj he2 hlt2 =>
      have e : at_ ts i = at_ us j := key i j hi hj he he2
      have hL : L ⟨n, x⟩ (at_ ts i) := L_of_less (by simp only [less, Bool.or_eq_true, decide_eq_true_eq]; exact .inl hlt)
      obtain ⟨f1, f2⟩ := fix_hp h.hp hi hL
      refine ⟨rfl, rfl, f1, f2.trans ?_, ?_, fun t ht => ?_⟩
      · have p1 := set_perm hi (⟨n, x⟩ : Tk)
        have p2 := set_perm hj (⟨n, x⟩ : Tk)
        rw [e] at p1
        exact (p1.trans ((List.Perm.cons _ h.perm).trans p2.symm)).cons_inv
      · rw [map_n_set hj he2]; exact h.nodup
      · rcases List.mem_or_eq_of_mem_set ht with h3 | h3
        · exact h.num t h3
        · rw [h3]; exact h1
    | new h2 hno =>
      obtain ⟨j, hj, e⟩ := no i hi he
      exact absurd e (hno j hj)
  | new h1 hno =>
    cases hr with
    | bad h2 => rw [h1] at h2; cases h2
    | there j h2 hj he2 _ =>
      obtain ⟨i, hi, e⟩ := no' j hj he2
      exact absurd e (hno i hi)
    | lighter j h2 hj he2 _ =>
      obtain ⟨i, hi, e⟩ := no' j hj he2
      exact absurd e (hno i hi)
    | new h2 hno2 =>
      obtain ⟨f1, f2⟩ := push_hp h.hp (⟨n, x⟩ : Tk)
      refine ⟨rfl, rfl, f1, f2.trans ((List.Perm.cons _ h.perm).trans ?_), ?_, fun t ht => ?_⟩
      · exact (List.perm_append_comm.trans (by simp)).symm
      · rw [List.map_append, List.nodup_append]
        refine ⟨h.nodup, by simp, fun a ha b hb => ?_⟩
        simp only [List.map_cons, List.map_nil, List.mem_singleton] at hb
        subst hb
        obtain ⟨t, ht, rfl⟩ := List.mem_map.1 ha
        obtain ⟨j, hj, rfl⟩ := at_of_mem ht
        exact hno2 j hj
      · rcases List.mem_append.1 ht with h3 | h3
        · exact h.num t h3
        · rw [List.mem_singleton.1 h3]; exact h1
theorem eraseIdx_perm {us : List Tk} {k : Nat} (hk : k < us.length) : (at_ us k :: (us.take k ++ us.drop (k + 1))).Perm us := by
  have e1 : us = us.take k ++ at_ us k :: us.drop (k + 1) := by
    have h3 : at_ us k = us[k] := by simp [at_, List.getD_eq_getElem?_getD, hk]
    rw [h3, List.getElem_cons_drop, List.take_append_drop]
  conv => rhs; rw [e1]
  exact List.perm_middle.symm
/-- Both lists answer a Pop alike, and hold the same behind it. -/
theorem Same.pop {ts us : List Tk} (h : Same ts us) {t : Tk} {b : Bool} {us' : List Tk} (hr : RPop us t b us') : (lPopF ts).1 = t ∧ (lPopF ts).2.1 = b ∧ Same (lPopF ts).2.2 us' := by
  cases hr with
  | none e =>
    subst e
    obtain rfl : ts = [] := h.perm.eq_nil
    exact ⟨rfl, rfl, h⟩
  | some k hk =>
    have hkl := hk.1
    have hl := h.len
    have hne : ts ≠ [] := fun e => by rw [e] at hl; simp at hl; omega
    have hp : 0 < ts.length := List.length_pos_iff.2 hne
    obtain ⟨p1, p2, p3⟩ := pop_hp h.hp hp
    have e : lPopF ts = ((popF ts).1, true, (popF ts).2) := by unfold lPopF; rw [if_neg hne]
    have e2 : (popF ts).1 = at_ us k := by
      rw [p1]
      refine L_antisymm ?_ ?_
      · obtain ⟨i, hi, e3⟩ := at_of_mem (h.perm.symm.subset (mem_at hkl))
        rw [← e3]; exact h.hp.least i hi
      · obtain ⟨j, hj, e3⟩ := at_of_mem (h.perm.subset (mem_at hp))
        rw [← e3]; exact hk.2 j hj
    rw [e]
    refine ⟨e2, rfl, p2, ?_, ?_, fun t ht => ?_⟩
    · rw [e2] at p3
      exact ((p3.trans h.perm).trans (eraseIdx_perm hkl).symm).cons_inv
    · have := (((eraseIdx_perm hkl).map Tk.n).nodup_iff).2 h.nodup
      rw [List.map_cons, List.nodup_cons] at this
      exact this.2
    · exact h.num t ((eraseIdx_perm hkl).subset (List.mem_cons_of_mem _ ht))
end Go.Proofs.Ytpjhflimaiaokaa.Heaps
