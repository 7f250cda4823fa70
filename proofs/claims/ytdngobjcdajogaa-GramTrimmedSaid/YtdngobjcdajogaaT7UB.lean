/-
A grammar without what is of no use: what is known of it, plainly.
-/
import Derived.Test.YtdngobjcdajogaaT7QZ
import Derived.Test.YtdngobjcdajogaaT7QV
namespace Go.Proofs.Ytdngobjcdajogaa.Gram
open Go.RowKit Go.Proofs.YtdngobjcdajogaaW.PrintWords Go.Proofs.YtdngobjcdajogaaW.PrintLast Go.Proofs.YtdngobjcdajogaaW.PrintMore Go.Proofs.Ytdngobjcdajogaa.Fr Go.Proofs.Ytdngobjcdajogaa.PGramFirsts Go.Proofs.Ytdngobjcdajogaa.TextSet
theorem numF_lt {kp : Nat → Bool} {a b : Nat} (h : a < b) (ha : kp a = true) : numF kp a < numF kp b := by
  induction b with
  | zero => omega
  | succ b ih =>
    by_cases e : a = b
    · subst e
      rw [numF_succ ha]
      omega
    · have := ih (by omega)
      cases hb : kp b with
      | true => rw [numF_succ hb]; omega
      | false => rw [numF_same hb]; exact this
theorem numF_inj {kp : Nat → Bool} {a b : Nat} (ha : kp a = true) (hb : kp b = true) (h : numF kp a = numF kp b) : a = b := by
  rcases Nat.lt_trichotomy a b with h1 | h1 | h1
  · have := numF_lt h1 ha
    omega
  · exact h1
  · have := numF_lt h1 hb
    omega
theorem numF_hit {kp : Nat → Bool} : ∀ (k b : Nat), b < numF kp k → ∃ a, a < k ∧ kp a = true ∧ numF kp a = b
  | 0, b, h => by simp [numF] at h
  | k + 1, b, h => by
    cases hk : kp k with
    | false =>
      rw [numF_same hk] at h
      obtain ⟨a, h1, h2⟩ := numF_hit k b h
      exact ⟨a, by omega, h2⟩
    | true =>
      rw [numF_succ hk] at h
      by_cases e : b = numF kp k
      · exact ⟨k, by omega, hk, e.symm⟩
      · obtain ⟨a, h1, h2⟩ := numF_hit (kp := kp) k b (by omega)
        exact ⟨a, by omega, h2⟩
theorem numF_all {kp : Nat → Bool} : ∀ {k : Nat}, (∀ a, a < k → kp a = true) → numF kp k = k
  | 0, _ => rfl
  | k + 1, h => by rw [numF_succ (h k (by omega)), numF_all (fun a ha => h a (by omega))]
theorem rd_numL {kp : Nat → Bool} {R a : Nat} (h : a < R) (hk : kp a = true) : rd (numL kp R R) (a : Int) = numF kp a := by
  simp [rd, numL, List.getD_eq_getElem?_getD, h, hk]
theorem rules_at {kp : Nat → Bool} {rules : List ByteArray} {a : Nat} (ha : kp a = true) : ∀ {k : Nat}, a < k → (rulesL kp rules k)[numF kp a]? = some (rdS rules a)
  | 0, h => by omega
  | k + 1, h => by
    cases hk : kp k with
    | false =>
      rw [rulesL_false hk]
      by_cases e : a = k
      · subst e
        rw [ha] at hk
        cases hk
      · exact rules_at ha (by omega)
    | true =>
      rw [rulesL_true hk]
      by_cases e : a = k
      · subst e
        rw [List.getElem?_append_right (by rw [rulesL_len]; exact Nat.le_refl _), rulesL_len]
        simp
      · rw [List.getElem?_append_left (by rw [rulesL_len]; exact numF_lt (by omega) ha)]
        exact rules_at ha (by omega)
theorem rulesL_all {kp : Nat → Bool} {l : List ByteArray} (h : ∀ a, a < l.length → kp a = true) : rulesL kp l l.length = l := by
  apply List.ext_getElem (by rw [rulesL_len, numF_all h])
  intro a h1 h2
  have := rules_at (rules := l) (h a h2) h2
  rw [numF_all (fun b hb => h b (by omega)), List.getElem?_eq_getElem h1] at this
  injection this with this
  rw [this]
  simp [rdS, rdOf, List.getD_eq_getElem?_getD, h2]
theorem prodsL_all {K : Nat} {stays : S57 → Bool} {num : List Int} {ps : List S57} (h : ∀ p, p ∈ ps → stays p = true ∧ prodT K num p = p) : prodsL K stays num ps = ps := by
  unfold prodsL
  rw [List.filter_eq_self.2 (fun p hp => (h p hp).1)]
  have : ps.map (prodT K num) = ps.map id := List.map_congr_left (fun p hp => (h p hp).2)
  rw [this, List.map_id]
theorem mem_T57 {l : List S57} {i : Nat} (h : i < l.length) : rd_T57 l i ∈ l := by
  simp [rd_T57, List.getD_eq_getElem?_getD, h]
theorem mem_T57' {l : List S57} {p : S57} (h : p ∈ l) : ∃ i : Nat, i < l.length ∧ rd_T57 l i = p := by
  obtain ⟨i, hi, e⟩ := List.getElem_of_mem h
  exact ⟨i, hi, by simp [rd_T57, List.getD_eq_getElem?_getD, hi, e]⟩
theorem rd_map {f : Int → Int} {l : List Int} {t : Nat} (h : t < l.length) : rd (l.map f) (t : Int) = f (rd l (t : Int)) := by
  simp [rd, List.getD_eq_getElem?_getD, h]
theorem trim_prod {G : Gr} {i : Nat} (hi : i < (trimG G).prods.length) : ∃ j : Nat, j < G.prods.length ∧ staysT G (rd_T57 G.prods j) = true ∧ rd_T57 (trimG G).prods i = prodT G.kinds.length (numT G) (rd_T57 G.prods j) := by
  have := mem_T57 hi
  obtain ⟨p, hp, e⟩ := List.mem_map.1 (show rd_T57 (trimG G).prods i ∈ (G.prods.filter (staysT G)).map (prodT G.kinds.length (numT G)) from this)
  obtain ⟨hp1, hp2⟩ := List.mem_filter.1 hp
  obtain ⟨j, hj, rfl⟩ := mem_T57' hp1
  exact ⟨j, hj, hp2, e.symm⟩
theorem trim_has {G : Gr} {j : Nat} (hj : j < G.prods.length) (hs : staysT G (rd_T57 G.prods j) = true) : ∃ i : Nat, i < (trimG G).prods.length ∧ rd_T57 (trimG G).prods i = prodT G.kinds.length (numT G) (rd_T57 G.prods j) := by
  have : prodT G.kinds.length (numT G) (rd_T57 G.prods j) ∈ (trimG G).prods := List.mem_map.2 ⟨_, List.mem_filter.2 ⟨mem_T57 hj, hs⟩, rfl⟩
  exact mem_T57' this
theorem trim_rules (G : Gr) : (trimG G).rules.length = numF (kpT G) G.rules.length := rulesL_len _ _ _
theorem good_iff {G : Gr} {p : S57} : goodB G.kinds.length (proL G) p = true ↔ rdOf false (proL G) p.f0 = true ∧ ∀ x, x ∈ p.f1 → ¬ x < G.kinds.length → rdOf false (proL G) (x - G.kinds.length) = true := by
  simp only [goodB, Bool.and_eq_true, wholeF, List.all_eq_true]
  refine and_congr Iff.rfl ⟨fun h x hx hk => ?_, fun h x hx => ?_⟩
  · have := h x hx
    simpa [symF, hk] using this
  · by_cases hk : x < G.kinds.length
    · simp [symF, hk]
    · simpa [symF, hk] using h x hx hk
theorem stay_iff {G : Gr} {p : S57} : staysT G p = true ↔ goodB G.kinds.length (proL G) p = true ∧ rdOf false (keepL G) p.f0 = true := by
  simp only [staysT, Bool.and_eq_true]
theorem kp_iff {G : Gr} {a : Nat} : kpT G a = true ↔ rdOf false (keepL G) (a : Int) = true ∧ rdOf false (proL G) (a : Int) = true := by
  simp only [kpT, Bool.and_eq_true]
theorem row_bound {K R : Nat} {row : List Int} (h : RowOk K R row) {x : Int} (hx : x ∈ row) : 1 ≤ x ∧ x < K + R := by
  obtain ⟨t, ht, rfl⟩ := mem_rd hx
  exact h t ht
theorem stay_syms {G : Gr} (hP : ProdsOk G) {j : Nat} (hj : j < G.prods.length) (hs : staysT G (rd_T57 G.prods j) = true) : kpT G (rd_T57 G.prods j).f0.toNat = true ∧ ∀ x, x ∈ (rd_T57 G.prods j).f1 → ¬ x < G.kinds.length → kpT G (x - G.kinds.length).toNat = true := by
  obtain ⟨hg, hk⟩ := stay_iff.1 hs
  obtain ⟨h1, h2⟩ := good_iff.1 hg
  obtain ⟨p0, p1, _, hro⟩ := hP j hj
  have ef : (((rd_T57 G.prods j).f0.toNat : Nat) : Int) = (rd_T57 G.prods j).f0 := by omega
  refine ⟨kp_iff.2 (by rw [ef]; exact ⟨hk, h1⟩), fun x hx hn => ?_⟩
  obtain ⟨b1, b2⟩ := row_bound hro hx
  have ex : (((x - G.kinds.length).toNat : Nat) : Int) = x - G.kinds.length := by omega
  refine kp_iff.2 ⟨?_, by rw [ex]; exact h2 x hx hn⟩
  refine (reachL_at (by omega)).2 ?_
  refine Rch.next (a := (rd_T57 G.prods j).f0.toNat) ((reachL_at (by omega)).1 (by rw [ef]; exact hk)) hj (by omega) hg hx (by omega)
theorem symT_kind {K : Nat} {num : List Int} {x : Int} (h : x < K) : symT K num x = x := by simp [symT, h]
theorem symT_rule {G : Gr} {x : Int} (h : ¬ x < G.kinds.length) (hb : x < G.kinds.length + G.rules.length) (hk : kpT G (x - G.kinds.length).toNat = true) : symT G.kinds.length (numT G) x = G.kinds.length + (numF (kpT G) (x - G.kinds.length).toNat : Int) := by
  unfold symT
  rw [if_neg h]
  have := rd_numL (R := G.rules.length) (a := (x - G.kinds.length).toNat) (by omega) hk
  rw [Int.toNat_of_nonneg (by omega)] at this
  unfold numT
  rw [this]
theorem left_T {G : Gr} (hP : ProdsOk G) {j : Nat} (hj : j < G.prods.length) (hs : staysT G (rd_T57 G.prods j) = true) : (prodT G.kinds.length (numT G) (rd_T57 G.prods j)).f0 = (numF (kpT G) (rd_T57 G.prods j).f0.toNat : Int) := by
  obtain ⟨p0, p1, _, _⟩ := hP j hj
  have := rd_numL (R := G.rules.length) (a := (rd_T57 G.prods j).f0.toNat) (by omega) (stay_syms hP hj hs).1
  rw [Int.toNat_of_nonneg p0] at this
  exact this
theorem start_T {G : Gr} (h0 : 0 ≤ G.start) (h1 : G.start < G.rules.length) (hk : kpT G G.start.toNat = true) : (trimG G).start = (numF (kpT G) G.start.toNat : Int) := by
  have := rd_numL (R := G.rules.length) (a := G.start.toNat) (by omega) hk
  rw [Int.toNat_of_nonneg h0] at this
  exact this
theorem kp_start {G : Gr} (h0 : 0 ≤ G.start) (h1 : G.start < G.rules.length) (hs : rdOf false (proL G) G.start = true) : kpT G G.start.toNat = true := by
  refine kp_iff.2 ⟨(reachL_at (by omega)).2 .start, by rw [Int.toNat_of_nonneg h0]; exact hs⟩
theorem der_good {G : Gr} (hP : ProdsOk G) {j : Nat} (hj : j < G.prods.length) (hx : ∀ x, x ∈ (rd_T57 G.prods j).f1 → ¬ x < G.kinds.length → Der G true (x - G.kinds.length).toNat) : goodB G.kinds.length (proL G) (rd_T57 G.prods j) = true := by
  obtain ⟨p0, p1, _, hro⟩ := hP j hj
  refine good_iff.2 ⟨?_, fun x hx2 hn => ?_⟩
  · have : Der G true (rd_T57 G.prods j).f0.toNat := .mk j hj (fun _ _ _ => rfl) (fun t ht hn => hx _ (rd_mem ht) hn)
    have := (closedL_at (by omega)).2 this
    rwa [Int.toNat_of_nonneg p0] at this
  · obtain ⟨b1, b2⟩ := row_bound hro hx2
    have := (closedL_at (by omega)).2 (hx x hx2 hn)
    rwa [Int.toNat_of_nonneg (by omega)] at this
theorem der_trim {G : Gr} (hP : ProdsOk G) {a : Nat} (h : Der G true a) : kpT G a = true → Der (trimG G) true (numF (kpT G) a) := by
  induction h with
  | mk j hj hk hr ih =>
    intro hkp
    obtain ⟨p0, p1, _, hro⟩ := hP j hj
    have hkeep := (kp_iff.1 hkp).1
    rw [Int.toNat_of_nonneg p0] at hkeep
    have hst : staysT G (rd_T57 G.prods j) = true := stay_iff.2 ⟨der_good hP hj (fun x hx hn => by
      obtain ⟨t, ht, rfl⟩ := mem_rd hx
      exact hr t ht hn), hkeep⟩
    obtain ⟨h0, hx⟩ := stay_syms hP hj hst
    obtain ⟨i, hi, e⟩ := trim_has hj hst
    have hd := Der.mk (G := trimG G) (kinds := true) i hi (fun _ _ _ => rfl) (by
      intro t ht hge
      rw [e] at ht hge ⊢
      have ht2 : t < (rd_T57 G.prods j).f1.length := by simpa [prodT] using ht
      have er : rd (prodT G.kinds.length (numT G) (rd_T57 G.prods j)).f1 (t : Int) = symT G.kinds.length (numT G) (rd (rd_T57 G.prods j).f1 (t : Int)) := rd_map ht2
      rw [er] at hge ⊢
      change ¬ symT G.kinds.length (numT G) (rd (rd_T57 G.prods j).f1 (t : Int)) < (G.kinds.length : Int) at hge
      change Der (trimG G) true (symT G.kinds.length (numT G) (rd (rd_T57 G.prods j).f1 (t : Int)) - (G.kinds.length : Int)).toNat
      have hn : ¬ rd (rd_T57 G.prods j).f1 (t : Int) < G.kinds.length := fun hlt => hge (by rw [symT_kind hlt]; exact hlt)
      have hkx := hx _ (rd_mem ht2) hn
      rw [symT_rule hn (hro t ht2).2 hkx, show ((G.kinds.length : Int) + (numF (kpT G) (rd (rd_T57 G.prods j).f1 (t : Int) - G.kinds.length).toNat : Int) - G.kinds.length).toNat = numF (kpT G) (rd (rd_T57 G.prods j).f1 (t : Int) - G.kinds.length).toNat by omega]
      exact ih t ht2 hn hkx)
    rw [e, left_T hP hj hst, Int.toNat_natCast] at hd
    exact hd
theorem rch_trim {G : Gr} (hP : ProdsOk G) (h0 : 0 ≤ G.start) (h1 : G.start < G.rules.length) (may' : Nat → Bool) (hm : ∀ i, i < (trimG G).prods.length → may' i = true) {a : Nat} (h : Rch G (mayT G) a) : kpT G a = true → a < G.rules.length → Rch (trimG G) may' (numF (kpT G) a) := by
  induction h with
  | start =>
    intro hk _
    have := Rch.start (G := trimG G) (may := may')
    rw [start_T h0 h1 hk, Int.toNat_natCast] at this
    exact this
  | @next a j x ha hj hf hg hx hk ih =>
    intro hkx _
    obtain ⟨p0, p1, _, hro⟩ := hP j hj
    have hg2 : goodB G.kinds.length (proL G) (rd_T57 G.prods j) = true := hg
    have hra : rdOf false (keepL G) (rd_T57 G.prods j).f0 = true := by
      rw [hf]
      exact (reachL_at (by omega)).2 ha
    have hst := stay_iff.2 ⟨hg2, hra⟩
    obtain ⟨k0, kx⟩ := stay_syms hP hj hst
    obtain ⟨i, hi, e⟩ := trim_has hj hst
    have ea : (rd_T57 G.prods j).f0.toNat = a := by omega
    rw [ea] at k0
    obtain ⟨b1, b2⟩ := row_bound hro hx
    have hn : ¬ x < (G.kinds.length : Int) := by omega
    have := Rch.next (G := trimG G) (may := may') (i := i) (x := symT G.kinds.length (numT G) x) (ih k0 (by omega)) hi (by rw [e, left_T hP hj hst, ea]) (hm i hi) (by
      rw [e]
      exact List.mem_map.2 ⟨x, hx, rfl⟩) (by
      rw [symT_rule hn b2 hkx]
      change (G.kinds.length : Int) ≤ _
      omega)
    rw [symT_rule hn b2 hkx] at this
    change Rch (trimG G) may' ((G.kinds.length : Int) + (numF (kpT G) (x - G.kinds.length).toNat : Int) - (G.kinds.length : Int)).toNat at this
    rwa [show ((G.kinds.length : Int) + (numF (kpT G) (x - G.kinds.length).toNat : Int) - (G.kinds.length : Int)).toNat = numF (kpT G) (x - G.kinds.length).toNat by omega] at this
theorem trim_pro {G : Gr} (hP : ProdsOk G) {b : Nat} (hb : b < (trimG G).rules.length) : rdOf false (proL (trimG G)) (b : Int) = true := by
  refine (closedL_at hb).2 ?_
  rw [trim_rules] at hb
  obtain ⟨a, ha, hk, rfl⟩ := numF_hit _ _ hb
  exact der_trim hP ((closedL_at ha).1 (kp_iff.1 hk).2) hk
theorem trim_rch {G : Gr} (hP : ProdsOk G) (h0 : 0 ≤ G.start) (h1 : G.start < G.rules.length) (may' : Nat → Bool) (hm : ∀ i, i < (trimG G).prods.length → may' i = true) {b : Nat} (hb : b < (trimG G).rules.length) : rdOf false (reachL (trimG G) may') (b : Int) = true := by
  refine (reachL_at hb).2 ?_
  rw [trim_rules] at hb
  obtain ⟨a, ha, hk, rfl⟩ := numF_hit _ _ hb
  exact rch_trim hP h0 h1 may' hm ((reachL_at ha).1 (kp_iff.1 hk).1) hk ha
theorem namesF_iff {ok : Bool} {l : List ByteArray} : ∀ {k : Nat}, namesF ok l k = true ↔ ok = true ∧ ∀ j, j < k → nameF l j = true
  | 0 => ⟨fun h => ⟨h, fun j hj => by omega⟩, fun h => h.1⟩
  | k + 1 => by
    simp only [namesF, Bool.and_eq_true]
    rw [namesF_iff (k := k)]
    constructor
    · rintro ⟨⟨h1, h2⟩, h3⟩
      refine ⟨h1, fun j hj => ?_⟩
      by_cases e : j = k
      · rw [e]; exact h3
      · exact h2 j (by omega)
    · rintro ⟨h1, h2⟩
      exact ⟨⟨h1, fun j hj => h2 j (by omega)⟩, h2 k (by omega)⟩
theorem nameF_iff {l : List ByteArray} {k : Nat} : nameF l k = true ↔ (1 ≤ (rdS l k).size ∧ (rdS l k).size ≤ 4096) ∧ ¬ rdS l k ∈ l.take k := by
  simp only [nameF, Bool.and_eq_true, decide_eq_true_eq, Bool.not_eq_true', ← inS_iff (ks := l.take k)]
  constructor
  · rintro ⟨h1, h2, h3⟩
    exact ⟨⟨by omega, by omega⟩, by rw [h3]; decide⟩
  · rintro ⟨⟨h1, h2⟩, h3⟩
    exact ⟨by omega, by omega, by cases hb : inS (rdS l k) (l.take k) with
      | false => rfl
      | true => exact absurd hb h3⟩
theorem rdS_of {l : List ByteArray} {k : Nat} {s : ByteArray} (h : l[k]? = some s) : rdS l k = s := by
  simp [rdS, rdOf, List.getD_eq_getElem?_getD, h]
theorem trim_names {G : Gr} (h : ∀ j, j < G.rules.length → nameF G.rules j = true) {b : Nat} (hb : b < (trimG G).rules.length) : nameF (trimG G).rules b = true := by
  rw [trim_rules] at hb
  obtain ⟨a, ha, hk, rfl⟩ := numF_hit _ _ hb
  have hr : ∀ {c : Nat}, c < G.rules.length → kpT G c = true → (trimG G).rules[numF (kpT G) c]? = some (rdS G.rules c) := fun hc hkc => rules_at hkc hc
  obtain ⟨h1, h2⟩ := nameF_iff.1 (h a ha)
  refine nameF_iff.2 ?_
  rw [rdS_of (hr ha hk)]
  refine ⟨h1, fun hm => h2 ?_⟩
  obtain ⟨b1, hb1, e⟩ := List.getElem_of_mem hm
  rw [List.getElem_take] at e
  have hlt : b1 < numF (kpT G) a := by
    rw [List.length_take] at hb1
    omega
  obtain ⟨a1, ha1, hk1, rfl⟩ := numF_hit a b1 hlt
  have e1 := hr (show a1 < G.rules.length by omega) hk1
  rw [List.getElem?_eq_getElem (by rw [List.length_take] at hb1; omega)] at e1
  injection e1 with e1
  rw [e1] at e
  rw [← e]
  refine List.mem_of_getElem? (i := a1) ?_
  rw [List.getElem?_take, if_pos ha1]
  have : a1 < G.rules.length := by omega
  simp [rdS, rdOf, List.getD_eq_getElem?_getD, this]
theorem trim_prodOk {G : Gr} (hc : CheckOk G) {i : Nat} (hi : i < (trimG G).prods.length) : ProdOk (trimG G).kinds.length (trimG G).rules.length (rd_T57 (trimG G).prods i) := by
  obtain ⟨j, hj, hs, e⟩ := trim_prod hi
  have hp := hc.prods j hj
  have hP := hc.prodsOk
  obtain ⟨k0, kx⟩ := stay_syms hP hj hs
  have hl := left_T hP hj hs
  have hR : ∀ {a : Nat}, a < G.rules.length → kpT G a = true → numF (kpT G) a < (trimG G).rules.length := fun ha hk => by
    rw [trim_rules]
    exact numF_lt ha hk
  rw [e]
  have hl0 := hp.l0
  have hl1 := hp.l1
  have hK2 := hc.kinds.two
  refine ⟨by rw [hl]; omega, by rw [hl]; have := hR (a := (rd_T57 G.prods j).f0.toNat) (by omega) k0; omega, by simp only [prodT, List.length_map]; exact hp.len, hp.lev, fun t ht => ?_, ?_⟩
  · have ht2 : t < (rd_T57 G.prods j).f1.length := by simpa [prodT] using ht
    have er : rd (prodT G.kinds.length (numT G) (rd_T57 G.prods j)).f1 (t : Int) = symT G.kinds.length (numT G) (rd (rd_T57 G.prods j).f1 (t : Int)) := rd_map ht2
    rw [er]
    change _ ∧ _ < ((G.kinds.length : Nat) : Int) + _
    obtain ⟨b1, b2⟩ := hp.syms t ht2
    by_cases hk : rd (rd_T57 G.prods j).f1 (t : Int) < G.kinds.length
    · rw [symT_kind hk]
      omega
    · have hkx := kx _ (rd_mem ht2) hk
      rw [symT_rule hk b2 hkx]
      have := hR (a := (rd (rd_T57 G.prods j).f1 (t : Int) - G.kinds.length).toNat) (by omega) hkx
      omega
  · have := hp.act
    simpa [prodT] using this
theorem trim_check {G : Gr} (hc : CheckOk G) (hs : rdOf false (proL G) G.start = true) : CheckOk (trimG G) := by
  obtain ⟨_, hR1, hR2, h0, h1, hP2⟩ := base_true hc.base
  have hk := kp_start h0 h1 hs
  refine ⟨hc.kinds, ?_, fun i hi => trim_prodOk hc hi⟩
  obtain ⟨hb1, hb2⟩ := namesF_iff.1 hc.base
  refine namesF_iff.2 ⟨?_, fun b hb => trim_names hb2 hb⟩
  have hpr : precsF (true && (((trimG G).precs.length : Int) == (trimG G).kinds.length)) (trimG G).precs (trimG G).precs.length = true := (startF_true hb1).1
  unfold startF
  rw [hpr]
  have e1 := start_T h0 h1 hk
  have e2 := trim_rules G
  have e3 := numF_le (kpT G) G.rules.length
  have e4 := numF_lt (kp := kpT G) (a := G.start.toNat) (b := G.rules.length) (by omega) hk
  have e5 : (trimG G).prods.length ≤ G.prods.length := prodsL_len _ _ _ _
  rw [e1, e2]
  simp only [Bool.true_and, Bool.and_eq_true, decide_eq_true_eq]
  refine ⟨by omega, by omega, by omega, by omega, by omega⟩
theorem trim_may {G : Gr} (hc : CheckOk G) (hs : rdOf false (proL G) G.start = true) : ∀ i, i < (trimG G).prods.length → mayT (trimG G) i = true := fun i hi => by
  have hP := (trim_check hc hs).prodsOk
  obtain ⟨p0, p1, _, hro⟩ := hP i hi
  refine good_iff.2 ⟨?_, fun x hx hn => ?_⟩
  · have := trim_pro hc.prodsOk (b := (rd_T57 (trimG G).prods i).f0.toNat) (by omega)
    rwa [Int.toNat_of_nonneg p0] at this
  · obtain ⟨b1, b2⟩ := row_bound hro hx
    have := trim_pro hc.prodsOk (b := (x - (trimG G).kinds.length).toNat) (by omega)
    rwa [Int.toNat_of_nonneg (by omega)] at this
theorem trim_kp {G : Gr} (hc : CheckOk G) (hs : rdOf false (proL G) G.start = true) {b : Nat} (hb : b < (trimG G).rules.length) : kpT (trimG G) b = true := by
  obtain ⟨_, _, _, h0, h1, _⟩ := base_true hc.base
  exact kp_iff.2 ⟨trim_rch hc.prodsOk h0 h1 _ (trim_may hc hs) hb, trim_pro hc.prodsOk hb⟩
theorem trim_num {G : Gr} (hc : CheckOk G) (hs : rdOf false (proL G) G.start = true) {x : Int} (h0 : 0 ≤ x) (h1 : x < (trimG G).rules.length) : rd (numT (trimG G)) x = x := by
  have := rd_numL (kp := kpT (trimG G)) (R := (trimG G).rules.length) (a := x.toNat) (by omega) (trim_kp hc hs (by omega))
  rw [Int.toNat_of_nonneg h0, numF_all (fun a ha => trim_kp hc hs (by omega)), Int.toNat_of_nonneg h0] at this
  exact this
theorem trim_trim {G : Gr} (hc : CheckOk G) (hs : rdOf false (proL G) G.start = true) : trimG (trimG G) = trimG G := by
  have hc2 := trim_check hc hs
  have hP := hc2.prodsOk
  obtain ⟨_, _, _, h0, h1, _⟩ := base_true hc2.base
  have e1 : rulesL (kpT (trimG G)) (trimG G).rules (trimG G).rules.length = (trimG G).rules := rulesL_all (fun a ha => trim_kp hc hs ha)
  have e2 : rd (numT (trimG G)) (trimG G).start = (trimG G).start := trim_num hc hs h0 h1
  have e3 : prodsL (trimG G).kinds.length (staysT (trimG G)) (numT (trimG G)) (trimG G).prods = (trimG G).prods := by
    refine prodsL_all (fun p hp => ?_)
    obtain ⟨i, hi, rfl⟩ := mem_T57' hp
    obtain ⟨p0, p1, _, hro⟩ := hP i hi
    refine ⟨stay_iff.2 ⟨trim_may hc hs i hi, ?_⟩, ?_⟩
    · have := (kp_iff.1 (trim_kp hc hs (b := (rd_T57 (trimG G).prods i).f0.toNat) (by omega))).1
      rwa [Int.toNat_of_nonneg p0] at this
    · have h5 : (rd_T57 (trimG G).prods i).f1.map (symT (trimG G).kinds.length (numT (trimG G))) = (rd_T57 (trimG G).prods i).f1.map id := List.map_congr_left (fun x hx => by
        obtain ⟨b1, b2⟩ := row_bound hro hx
        unfold symT
        split
        · rfl
        · rw [trim_num hc hs (by omega) (by omega)]
          simp only [id]
          omega)
      unfold prodT
      rw [h5, List.map_id, trim_num hc hs p0 p1]
  have e0 : trimG (trimG G) = ⟨(trimG G).kinds, (trimG G).precs, rulesL (kpT (trimG G)) (trimG G).rules (trimG G).rules.length, prodsL (trimG G).kinds.length (staysT (trimG G)) (numT (trimG G)) (trimG G).prods, rd (numT (trimG G)) (trimG G).start⟩ := rfl
  rw [e0, e1, e2, e3]
def KeepR (G : Gr) (row : List Int) : Prop := ∀ x, x ∈ row → ¬ x < G.kinds.length → kpT G (x - G.kinds.length).toNat = true ∧ x < G.kinds.length + G.rules.length
theorem siz_trim {G : Gr} (hP : ProdsOk G) {row : List Int} {n : Nat} (h : Siz G row n) : KeepR G row → Siz (trimG G) (row.map (symT G.kinds.length (numT G))) n := by
  induction h with
  | nil => exact fun _ => .nil
  | @kind x l n hk _ ih =>
    intro hr
    refine .kind ?_ (ih fun y hy => hr y (List.mem_cons_of_mem _ hy))
    rw [symT_kind hk]
    exact hk
  | @rule x l j m n hk hj hf h1 _ ih1 ih2 =>
    intro hr
    obtain ⟨hkx, hxb⟩ := hr x (List.mem_cons_self ..) hk
    obtain ⟨p0, p1, _, hro⟩ := hP j hj
    have hst : staysT G (rd_T57 G.prods j) = true := stay_iff.2 ⟨der_good hP hj (siz_der h1), by
      have := (kp_iff.1 hkx).1
      rw [Int.toNat_of_nonneg (by omega), ← hf] at this
      exact this⟩
    obtain ⟨k0, kx⟩ := stay_syms hP hj hst
    obtain ⟨i, hi, e⟩ := trim_has hj hst
    have h2 := ih1 (fun y hy hn => ⟨kx y hy hn, (row_bound hro hy).2⟩)
    refine .rule (i := i) ?_ hi ?_ (by rw [e]; exact h2) (ih2 fun y hy => hr y (List.mem_cons_of_mem _ hy))
    · rw [symT_rule hk hxb hkx]
      change ¬ _ < (G.kinds.length : Int)
      omega
    · rw [symT_rule hk hxb hkx, e, left_T hP hj hst, hf]
      change _ = _ - (G.kinds.length : Int)
      omega
theorem siz_back {G : Gr} (hP : ProdsOk G) {row' : List Int} {n : Nat} (h : Siz (trimG G) row' n) : ∀ row, row' = row.map (symT G.kinds.length (numT G)) → KeepR G row → Siz G row n := by
  induction h with
  | nil =>
    intro row e _
    cases row with
    | nil => exact .nil
    | cons y l => cases e
  | @kind x l n hk _ ih =>
    intro row e hr
    cases row with
    | nil => cases e
    | cons y r =>
      injection e with e1 e2
      have hy : y < (G.kinds.length : Int) := Decidable.byContradiction fun hn => by
        obtain ⟨a1, a2⟩ := hr y (List.mem_cons_self ..) hn
        rw [e1, symT_rule hn a2 a1] at hk
        change _ < (G.kinds.length : Int) at hk
        omega
      exact .kind hy (ih r e2 fun z hz => hr z (List.mem_cons_of_mem _ hz))
  | @rule x l i m n hk hi hf _ _ ih1 ih2 =>
    intro row e hr
    cases row with
    | nil => cases e
    | cons y r =>
      injection e with e1 e2
      have hn : ¬ y < (G.kinds.length : Int) := fun hy => hk (by rw [e1, symT_kind hy]; exact hy)
      obtain ⟨a1, a2⟩ := hr y (List.mem_cons_self ..) hn
      obtain ⟨j, hj, hst, ep⟩ := trim_prod hi
      obtain ⟨p0, p1, _, hro⟩ := hP j hj
      obtain ⟨k0, kx⟩ := stay_syms hP hj hst
      rw [ep, left_T hP hj hst, e1, symT_rule hn a2 a1] at hf
      change _ = _ - (G.kinds.length : Int) at hf
      have := numF_inj k0 a1 (by omega)
      refine .rule (i := j) hn hj (by omega) (ih1 _ (by rw [ep]; rfl) (fun z hz hzn => ⟨kx z hz hzn, (row_bound hro hz).2⟩)) (ih2 r e2 fun z hz => hr z (List.mem_cons_of_mem _ hz))
theorem least_eq {G G' : Gr} {L L' : List Int} (h : LeastOk G L) (h' : LeastOk G' L') {a a' : Nat} (ha : a < G.rules.length) (ha' : a' < G'.rules.length) (hs : ∀ n, Siz G [(G.kinds.length : Int) + a] n ↔ Siz G' [(G'.kinds.length : Int) + a'] n) : rd L (a : Int) = rd L' (a' : Int) := by
  have b1 := h.bound (a : Int)
  have b2 := h'.bound (a' : Int)
  by_cases h1 : 0 ≤ rd L (a : Int)
  · obtain ⟨n, hn, e⟩ := h.sound a ha h1
    obtain ⟨c1, c2⟩ := h'.least a' n ((hs n).1 hn)
    obtain ⟨m, hm, e2⟩ := h'.sound a' ha' c1
    obtain ⟨d1, d2⟩ := h.least a m ((hs m).2 hm)
    omega
  · by_cases h2 : 0 ≤ rd L' (a' : Int)
    · obtain ⟨m, hm, e2⟩ := h'.sound a' ha' h2
      obtain ⟨d1, d2⟩ := h.least a m ((hs m).2 hm)
      omega
    · omega
theorem trim_least {G : Gr} (hc : CheckOk G) (hs : rdOf false (proL G) G.start = true) {L L' : List Int} (h : LeastOk G L) (h' : LeastOk (trimG G) L') : rd L' (trimG G).start = rd L G.start ∧ 0 ≤ rd L G.start := by
  obtain ⟨_, _, _, h0, h1, _⟩ := base_true hc.base
  have hk := kp_start h0 h1 hs
  have hP := hc.prodsOk
  have e1 := start_T h0 h1 hk
  have e4 := numF_lt (kp := kpT G) (a := G.start.toNat) (b := G.rules.length) (by omega) hk
  have hrow : KeepR G [(G.kinds.length : Int) + (G.start.toNat : Int)] := fun x hx hn => by
    rw [List.mem_singleton] at hx
    subst hx
    rw [show ((G.kinds.length : Int) + (G.start.toNat : Int) - G.kinds.length).toNat = G.start.toNat by omega]
    exact ⟨hk, by omega⟩
  have hmap : [(G.kinds.length : Int) + (G.start.toNat : Int)].map (symT G.kinds.length (numT G)) = [((trimG G).kinds.length : Int) + (numF (kpT G) G.start.toNat : Int)] := by
    have := symT_rule (G := G) (x := (G.kinds.length : Int) + (G.start.toNat : Int)) (by omega) (by omega) (by rw [show ((G.kinds.length : Int) + (G.start.toNat : Int) - G.kinds.length).toNat = G.start.toNat by omega]; exact hk)
    rw [show ((G.kinds.length : Int) + (G.start.toNat : Int) - G.kinds.length).toNat = G.start.toNat by omega] at this
    simp only [List.map_cons, List.map_nil, this]
    rfl
  have he := least_eq h h' (a := G.start.toNat) (a' := numF (kpT G) G.start.toNat) (by omega) (by rw [trim_rules]; exact e4) (fun n => ⟨fun hn => by
    have := siz_trim hP hn hrow
    rwa [hmap] at this, fun hn => siz_back hP hn _ hmap.symm hrow⟩)
  rw [Int.toNat_of_nonneg h0] at he
  rw [e1]
  refine ⟨he.symm, ?_⟩
  have := (told h hP (a := G.start.toNat) (by omega)).pro
  rw [Int.toNat_of_nonneg h0] at this
  exact this.1 hs
end Go.Proofs.Ytdngobjcdajogaa.Gram
