/-
Which rules the start leads to: the plain law, and what stands in a call of gram.reached.
-/
import Derived.Test.YtdngobjcdajogaaT9QD
import Derived.Test.YtdngobjcdajogaaT9QE
namespace Go.Proofs.Ytdngobjcdajogaa.Gram
open Go.RowKit Go.Proofs.YtdngobjcdajogaaW.PrintWords Go.Proofs.YtdngobjcdajogaaW.PrintLast Go.Proofs.YtdngobjcdajogaaW.PrintMore Go.Proofs.Ytdngobjcdajogaa.Fr Go.Proofs.Ytdngobjcdajogaa.PGramFirsts Go.Proofs.Ytdngobjcdajogaa.TextSet
/-- The start leads to a rule, by the productions that may be. -/
inductive Rch (G : Gr) (may : Nat → Bool) : Nat → Prop
  | start : Rch G may G.start.toNat
  | next {a i : Nat} {x : Int} : Rch G may a → i < G.prods.length → (rd_T57 G.prods i).f0 = a → may i = true → x ∈ (rd_T57 G.prods i).f1 → G.kinds.length ≤ x → Rch G may (x - G.kinds.length).toNat
def Marked (G : Gr) (marks : List Bool) (x : Int) : Prop := G.kinds.length ≤ x → rdOf false marks (x - G.kinds.length) = true
/-- Production j is no news for rule a. -/
def Did (G : Gr) (may : Nat → Bool) (marks : List Bool) (a : Int) (j : Nat) : Prop := (rd_T57 G.prods j).f0 = a → may j = true → ∀ x, x ∈ (rd_T57 G.prods j).f1 → Marked G marks x
structure RcSt (G : Gr) (may : Nat → Bool) (marks : List Bool) (l : List Int) : Prop where
  len : marks.length = G.rules.length
  snd : ∀ a : Nat, rdOf false marks (a : Int) = true → Rch G may a
  que : ∀ b, b ∈ l → 0 ≤ b ∧ b < G.rules.length ∧ rdOf false marks b = true
  cls : ∀ a : Nat, rdOf false marks (a : Int) = true → (a : Int) ∈ l ∨ ∀ j, j < G.prods.length → Did G may marks a j
  start : rdOf false marks G.start = true
theorem marked_set {marks : List Bool} {b : Nat} {x : Int} (h : rdOf false marks x = true) : rdOf false (marks.set b true) x = true := by
  simp only [rdOf, List.getD_eq_getElem?_getD, List.getElem?_set] at h ⊢
  split
  · rename_i e
    split
    · rfl
    · rename_i hn
      rw [List.getElem?_eq_none (by omega)] at h
      simp at h
  · exact h
theorem Did.set {G : Gr} {may : Nat → Bool} {marks : List Bool} {a : Int} {j b : Nat} (h : Did G may marks a j) : Did G may (marks.set b true) a j := fun h1 h2 x hx hk => marked_set (h h1 h2 x hx hk)
theorem RcSt.begin {G : Gr} (may : Nat → Bool) (h0 : 0 ≤ G.start) (h1 : G.start < G.rules.length) : RcSt G may ((List.replicate G.rules.length false).set G.start.toNat true) [G.start] ∧ ((List.replicate G.rules.length false).set G.start.toNat true).count false + 1 ≤ G.rules.length := by
  have es : ((G.start.toNat : Nat) : Int) = G.start := by omega
  have hone : ∀ a : Nat, rdOf false ((List.replicate G.rules.length false).set G.start.toNat true) (a : Int) = true → a = G.start.toNat := fun a ha => by
    rw [rdOf_set (by simp; omega)] at ha
    split at ha
    · assumption
    · simp only [rdOf, List.getD_eq_getElem?_getD, List.getElem?_replicate] at ha
      split at ha <;> simp at ha
  have hst : rdOf false ((List.replicate G.rules.length false).set G.start.toNat true) G.start = true := by
    have := rdOf_set (l := List.replicate G.rules.length false) (i := G.start.toNat) (by simp; omega) G.start.toNat
    rw [es, if_pos rfl] at this
    exact this
  refine ⟨⟨by simp, fun a ha => ?_, fun b hb => ?_, fun a ha => ?_, hst⟩, ?_⟩
  · rw [hone a ha]; exact .start
  · simp only [List.mem_singleton] at hb
    subst hb
    exact ⟨h0, h1, hst⟩
  · left
    rw [hone a ha, es]
    exact List.mem_singleton.2 rfl
  · have := set_falses (l := List.replicate G.rules.length false) (k := G.start.toNat) (by simp; omega) (by rw [es]; simp only [rdOf, List.getD_eq_getElem?_getD, List.getElem?_replicate]; split <;> rfl)
    rw [this]
    simp
theorem RcSt.push {G : Gr} {may : Nat → Bool} {marks : List Bool} {l : List Int} (h : RcSt G may marks l) {b : Int} (h0 : 0 ≤ b) (h1 : b < G.rules.length) (hr : Rch G may b.toNat) (hn : rdOf false marks b = false) :
    RcSt G may (marks.set b.toNat true) (l ++ [b]) ∧ (marks.set b.toNat true).count false + (l ++ [b]).length = marks.count false + l.length := by
  have es : ((b.toNat : Nat) : Int) = b := by omega
  have hbl : b.toNat < marks.length := by rw [h.len]; omega
  have hst : rdOf false (marks.set b.toNat true) b = true := by
    have := rdOf_set hbl b.toNat
    rw [es, if_pos rfl] at this
    exact this
  refine ⟨⟨by simp [h.len], fun a ha => ?_, fun c hc => ?_, fun a ha => ?_, marked_set h.start⟩, ?_⟩
  · rw [rdOf_set hbl] at ha
    split at ha
    · rename_i e; rw [e]; exact hr
    · exact h.snd a ha
  · rw [List.mem_append, List.mem_singleton] at hc
    rcases hc with hc | rfl
    · have := h.que c hc
      exact ⟨this.1, this.2.1, marked_set this.2.2⟩
    · exact ⟨h0, h1, hst⟩
  · rw [rdOf_set hbl] at ha
    split at ha
    · rename_i e
      left
      rw [e, es]
      simp
    · rcases h.cls a ha with hm | hd
      · exact .inl (List.mem_append_left _ hm)
      · exact .inr fun j hj => (hd j hj).set
  · have := set_falses hbl (by rw [es]; exact hn)
    simp only [List.length_append, List.length_cons, List.length_nil]
    omega
theorem RcSt.pop {G : Gr} {may : Nat → Bool} {marks : List Bool} {b : Int} {l : List Int} (h : RcSt G may marks (b :: l)) (hd : ∀ j, j < G.prods.length → Did G may marks b j) : RcSt G may marks l :=
  ⟨h.len, h.snd, fun c hc => h.que c (List.mem_cons_of_mem _ hc), fun a ha => by
    rcases h.cls a ha with hm | hd2
    · rcases List.mem_cons.1 hm with e | hm
      · exact .inr (by rw [e]; exact hd)
      · exact .inl hm
    · exact .inr hd2, h.start⟩
open Classical in
/-- The marks of the rules that the start leads to. -/
noncomputable def reachL (G : Gr) (may : Nat → Bool) : List Bool := (List.range G.rules.length).map fun a => decide (Rch G may a)
theorem reachL_length (G : Gr) (may : Nat → Bool) : (reachL G may).length = G.rules.length := by simp [reachL]
theorem reachL_at {G : Gr} {may : Nat → Bool} {a : Nat} (h : a < G.rules.length) : rdOf false (reachL G may) a = true ↔ Rch G may a := by
  simp [reachL, rdOf, List.getD_eq_getElem?_getD, h]
theorem RcSt.done {G : Gr} {may : Nat → Bool} {marks : List Bool} (h : RcSt G may marks []) (h0 : 0 ≤ G.start) : marks = reachL G may := by
  have hall : ∀ a : Nat, Rch G may a → rdOf false marks (a : Int) = true := fun a ha => by
    induction ha with
    | start => rw [Int.toNat_of_nonneg h0]; exact h.start
    | @next a i x _ hi hf hm hx hk ih =>
      rcases h.cls a ih with hc | hd
      · cases hc
      · have := hd i hi hf hm x hx hk
        rwa [Int.toNat_of_nonneg (by omega)]
  apply List.ext_getElem (by rw [h.len, reachL_length])
  intro a h1 h2
  have e1 : rdOf false marks a = marks[a] := by simp [rdOf, List.getD_eq_getElem?_getD, h1]
  have e2 : rdOf false (reachL G may) a = (reachL G may)[a] := by simp [rdOf, List.getD_eq_getElem?_getD, h2]
  have h3 : rdOf false marks a = true ↔ Rch G may a := ⟨h.snd a, hall a⟩
  have h4 := reachL_at (may := may) (G := G) (a := a) (by rw [← h.len]; exact h1)
  rw [e1] at h3
  rw [e2] at h4
  cases hm : marks[a] <;> cases hc : (reachL G may)[a] <;> simp_all
theorem CW.fr {w W W1 : World} {G : Gr} {A0 A1 A2 A3 : Option Addr} {c0 c1 c2 c3 : Nat} {v : Value} {marks : List Bool} {S : Nat → Prop} (h : CW w W G A0 A1 A2 A3 c0 c1 c2 c3 v marks) (hF : Fr S W W1) (hS : ∀ k, S k → w.heap.size < k) (hv : ∀ k, v.ownBlock = some k → ¬ S k) : CW w W1 G A0 A1 A2 A3 c0 c1 c2 c3 v marks := by
  refine ⟨⟨hF.blk h.chk.box (fun e => by have := hS _ e; omega), h.chk.fr.trans hF (fun k hk e => by have := hS k e; omega)⟩, ?_⟩
  exact Kd.R_mono (hF.R (show kB.R 4 W (w.heap.size + 1) (fun k => v.ownBlock = some k) v marks from Kd.R_of_own (Kd.own_of_R h.row) (fun _ hk => hk)) (fun k hk => hv k hk)) (fun _ _ => trivial)
/-- A queue of numbers has grown: the marks' row stands. -/
theorem CW.over {w W W1 : World} {G : Gr} {A0 A1 A2 A3 : Option Addr} {c0 c1 c2 c3 : Nat} {v v2 : Value} {marks : List Bool} {l : List Int} {ok : Nat → Prop} (h : CW w W G A0 A1 A2 A3 c0 c1 c2 c3 v marks) (hq : kI.Q 3 W (w.heap.size + 1) ok v2 l) (hg : W.grownBy W1 v2.ownBlock) : CW w W1 G A0 A1 A2 A3 c0 c1 c2 c3 v marks := by
  refine h.fr (S := fun k => v2.ownBlock = some k) ⟨hg.os, hg.tape, hg.output, hg.size, fun i hi hn => hg.block i hi (fun e => hn e.symm)⟩ (fun k hk => by have := Kd.Q_base hq k hk; omega) (fun k hk e => ?_)
  obtain ⟨c1, h1⟩ := Kd.Q_typed hq k e
  obtain ⟨c2, h2⟩ := Kd.R_typed h.row k hk
  rw [h1] at h2
  injection h2 with h2
  injection h2 with _ h2
  exact absurd h2 (by decide)
theorem CW.at {w W : World} {G : Gr} {A0 A1 A2 A3 : Option Addr} {c0 c1 c2 c3 gb cap : Nat} {marks : List Bool} (h : CW w W G A0 A1 A2 A3 c0 c1 c2 c3 (.slice (some ⟨gb, 0, none⟩) G.rules.length cap) marks) (hl : marks.length = G.rules.length) {i : Int} (h0 : 0 ≤ i) (h1 : i < G.rules.length) :
    W.cell? ⟨gb, i.toNat, none⟩ = some (.bool (rdOf false marks i)) ∧ W.frozen? ⟨gb, i.toNat, none⟩ = false := by
  obtain ⟨Am, cm, em, hcm, hCm⟩ := Kd.R_reads h.row
  injection em with em1 em2 em3
  subst em1
  obtain ⟨adm, ea, hxm⟩ := Kd.at_bool hCm i h0 (by omega)
  injection ea with ea
  subst ea
  rw [add_plain] at hxm
  obtain ⟨_, _, _, q, _, cells, hcells⟩ := (Kd.R_bound h.row).1 gb rfl
  exact ⟨hxm, blk_frozen hcells i.toNat⟩
/-- A mark is set: the queue stands. -/
theorem queue_mark {w W : World} {G : Gr} {A0 A1 A2 A3 : Option Addr} {c0 c1 c2 c3 gb cap : Nat} {marks : List Bool} (h : CW w W G A0 A1 A2 A3 c0 c1 c2 c3 (.slice (some ⟨gb, 0, none⟩) G.rules.length cap) marks) {v2 : Value} {l : List Int} {ok : Nat → Prop} {B : Nat} (hq : kI.Q 3 W B ok v2 l) (i : Nat) (u : Value) : kI.Q 3 (W.setCell ⟨gb, i, none⟩ u) B ok v2 l := by
  obtain ⟨cells, hc⟩ := Kd.R_typed h.row gb rfl
  exact Kd.Q_set hq hc (by decide) i u
end Go.Proofs.Ytdngobjcdajogaa.Gram
namespace Go.Proofs.Ytdngobjcdajogaa.Gram
open Go.RowKit Go.Proofs.YtdngobjcdajogaaW.PrintWords Go.Proofs.YtdngobjcdajogaaW.PrintLast Go.Proofs.YtdngobjcdajogaaW.PrintMore Go.Proofs.Ytdngobjcdajogaa.Fr Go.Proofs.Ytdngobjcdajogaa.PGramFirsts Go.Proofs.Ytdngobjcdajogaa.TextSet
theorem queue_cut {W : World} {B n c : Nat} {ok : Nat → Prop} {A : Option Addr} {l : List Int} (hq : kI.Q 3 W B ok (.slice A n c) l) (h : 1 ≤ l.length) :
    ∃ A' n' c', (∀ W, (Instr.slice 27 (.slice A n c) (some (.int .i64 1)) none none).run Try.prog W = .ok (.slice A' n' c') W) ∧ kI.Q 3 W B ok (.slice A' n' c') (l.drop 1) := by
  obtain ⟨h1, h2, _⟩ := Kd.Q_reads' hq
  obtain ⟨i0, hi0, _, hsz, _⟩ := info_parts info3
  exact ⟨_, _, _, cut_from (P := Try.prog) 27 3 .i64 Try.underlying27 hi0 1 hsz A n c 1 (by omega) (by omega), Kd.Q_drop (k := 1) hq h⟩
theorem queue_head {W : World} {B : Nat} {ok : Nat → Prop} {v : Value} {b : Int} {l : List Int} (hq : kI.Q 3 W B ok v (b :: l)) :
    ∃ g o c, v = .slice (some ⟨g, o, none⟩) (l.length + 1) c ∧ W.cell? ⟨g, o, none⟩ = some (.int .i64 b) := by
  obtain ⟨g, o, c, rfl, _⟩ := Kd.Q_form hq (by simp)
  have := (Kd.Q_cell 0 hq 0 (Int.le_refl _) (by simp)).1
  exact ⟨g, o, c, by simp, by simpa [rdOf] using this⟩
theorem queue_one {W : World} {B : Nat} (b : Int) (hB : B ≤ W.heap.size) : kI.Q 3 (W.alloc (.cells #[.int .i64 b] 3)) B (fun _ => True) (.slice (some ⟨W.heap.size, 0, none⟩) 1 1) [b] :=
  Kd.Q_of_R (Kd.R_of_own (own_lit_of W B 3 [b] hB (by simp)) (fun _ _ => trivial))
set_option maxHeartbeats 4000000 in
set_option maxRecDepth 100000 in
theorem reached_calls (w : World) (G : Gr) (A0 A1 A2 A3 : Option Addr) (c0 c1 c2 c3 : Nat) (h : GAt w G A0 A1 A2 A3 c0 c1 c2 c3) (hc : CheckOk G) (may : Nat → Bool)
    (hmay : ∀ (i : Nat) (W : World) (B1 B6 : Option Addr) (d1 d6 : Nat), i < G.prods.length → Fr (fun _ => False) w W → k55.C w B6 (rd_T57 G.prods (i : Int)).f3.f3.length (rd_T57 G.prods (i : Int)).f3.f3 → kI.C w B1 (rd_T57 G.prods (i : Int)).f1.length (rd_T57 G.prods (i : Int)).f1 → (rd_T57 G.prods (i : Int)).f1.length ≤ d1 →
      Calls Try.prog 40 #[.agg #[.int .i64 (rd_T57 G.prods (i : Int)).f0, .slice B1 (rd_T57 G.prods (i : Int)).f1.length d1, .int .i64 (rd_T57 G.prods (i : Int)).f2, .int .i64 (rd_T57 G.prods (i : Int)).f3.f0, .int .i64 (rd_T57 G.prods (i : Int)).f3.f1, .string (rd_T57 G.prods (i : Int)).f3.f2, .slice B6 (rd_T57 G.prods (i : Int)).f3.f3.length d6]] W fun e w' => e = .returned (.bool (may i)) ∧ Fr (fun _ => False) W w') :
    Calls Try.prog 34 #[.agg #[.slice A0 G.kinds.length c0, .slice A1 G.precs.length c1, .slice A2 G.rules.length c2, .slice A3 G.prods.length c3, .int .i64 G.start], .func (.func 40) #[] #[]] w fun e w' =>
      ∃ v, e = .returned v ∧ kB.R 4 w' (w.heap.size + 1) (fun _ => True) v (reachL G may) ∧ Fr (fun _ => False) w w' := by
  have hu := Try.underlying26
  have hu2 := Try.underlying57
  have hm3 := Kd.C_max h.prods
  have hR1 := (base_true hc.base).2.1
  have hR2 := (base_true hc.base).2.2.1
  have hs0 := (base_true hc.base).2.2.2.1
  have hs1 := (base_true hc.base).2.2.2.2.1
  have hQ2 := (base_true hc.base).2.2.2.2.2
  have hK2 := hc.kinds.max
  have HG := Aside0.mk h
  have HC := Aside0.mk hc
  have HM := Aside0.mk hmay
  have HB0 := Aside0.mk (RcSt.begin may hs0 hs1)
  have HW := Aside0.mk (show ChkW w (w.alloc (.cells #[.slice A0 G.kinds.length c0, .slice A1 G.precs.length c1, .slice A2 G.rules.length c2, .slice A3 G.prods.length c3, .int .i64 G.start] 26)) G A0 A1 A2 A3 c0 c1 c2 c3 from ⟨blk_new w _, (Fr.refl _ w).alloc _⟩)
  have hws : (w.alloc (.cells #[.slice A0 G.kinds.length c0, .slice A1 G.precs.length c1, .slice A2 G.rules.length c2, .slice A3 G.prods.length c3, .int .i64 G.start] 26)).heap.size = w.heap.size + 1 := by simp only [World.size_alloc]
  clear h hc hmay
  go_enter Try.func34, Try.ntmps34
  go_upto_region 1 with fail
  generalize w.alloc (.cells #[.slice A0 G.kinds.length c0, .slice A1 G.precs.length c1, .slice A2 G.rules.length c2, .slice A3 G.prods.length c3, .int .i64 G.start] 26) = W0 at HW hws ⊢
  obtain ⟨e0, e1, e2, e3, e4⟩ := HW.out.cells
  go_upto_region 2 with (at_make; refine Kd.R_make kB (w0 := W0) W0.heap.size 4 rfl (N := 15) rfl 36 _ _ rfl (G.rules.length : Int) rfl rfl Try.underlying36 (.bool false) 1 info4 rfl (by decide) (by omega) false (ok := fun _ => True) (okp := fun _ => True) rfl (fun _ hk => hk) trivial (by omega) (by omega) (Below.refl _ _) (Nat.le_refl _) ?_; intro v1 W1 h1 hB1 hg1 hb1; have HX := Aside0.mk (show CW w W1 G A0 A1 A2 A3 c0 c1 c2 c3 v1 (List.replicate G.rules.length false) from ⟨HW.out.go (Fr.of_below hB1), by simpa [hws] using h1⟩); clear h1 hB1 hg1)
  obtain ⟨gb, cap, rfl⟩ := marks_form HX.out.row (by simp; exact hR1)
  simp only [List.length_replicate] at HX hb1 ⊢
  clear HW e0 e1 e2 e3 e4
  obtain ⟨e0, e1, e2, e3, e4⟩ := HX.out.chk.cells
  obtain ⟨hx0, hfz⟩ := HX.out.at (by simp) hs0 hs1
  have HX1 := Aside0.mk (HX.out.mark (by simp) G.start).1
  obtain ⟨f0, f1, f2, f3, f4⟩ := HX1.out.chk.cells
  go_upto_region 3 with fail
  clear e0 e1 e2 e3 e4 hx0 hfz HX
  have hw1 : w.heap.size + 1 ≤ (W1.setCell ⟨gb, G.start.toNat, none⟩ (.bool true)).heap.size := blk_lt HX1.out.chk.box
  generalize W1.setCell ⟨gb, G.start.toNat, none⟩ (.bool true) = W2 at HX1 hw1 f0 f1 f2 f3 f4 ⊢
  have HQ1 := Aside0.mk (queue_one G.start hw1)
  have HX2 := Aside0.mk (HX1.out.go ((Fr.refl (fun _ => False) W2).alloc (.cells #[.int .i64 G.start] 3)))
  have HS2 := Aside0.mk HB0.out.1
  have hcnt := HB0.out.2
  clear HX1
  go_wp2_with (fail)
  go_loopg [6] G.rules.length (fun k a W => ∃ (marks : List Bool) (l : List Int), marks.count false + l.length ≤ k ∧ k ≤ G.rules.length ∧ Aside0 (CW w W G A0 A1 A2 A3 c0 c1 c2 c3 (.slice (some ⟨gb, 0, none⟩) G.rules.length cap) marks) ∧ Aside0 (kI.Q 3 W (w.heap.size + 1) (fun _ => True) a l) ∧ Aside0 (RcSt G may marks l))
  case atStart => exact ⟨_, _, hcnt, Nat.le_refl _, HX2, HQ1, HS2⟩
  case round =>
    clear HX2 HQ1 HS2 HB0 hcnt f0 f1 f2 f3 f4
    obtain ⟨marks, l, hk, hkR, HX, HQ, HS⟩ := hrel
    cases l with
    | nil =>
      have HE := Aside0.mk (HS.out.done hs0)
      have HRW := Aside0.mk (show kB.R 4 wr (w.heap.size + 1) (fun _ => True) (.slice (some ⟨gb, 0, none⟩) G.rules.length cap) (reachL G may) by have := HX.out.row; rwa [HE.out] at this)
      obtain ⟨A, c, rfl, _⟩ := Kd.Q_slice HQ.out
      simp only [List.length_nil]
      go_wp2_with (fail)
      go_ret
      exact ⟨_, rfl, HRW.out, HX.out.chk.fr⟩
    | cons b tl =>
      obtain ⟨g, o, c, rfl, hh⟩ := queue_head HQ.out
      obtain ⟨e0, e1, e2, e3, e4⟩ := HX.out.chk.cells
      have hpos : (0 : Int) < ((tl.length + 1 : Nat) : Int) := by omega
      have hkk : marks.count false + (b :: tl).length ≤ gk := hk
      go_wp2_with (fail)
      go_loopw [31, 6] (fun a q W => ∃ (i : Nat) (marks : List Bool) (tl : List Int), a = .int .i64 i ∧ i ≤ G.prods.length ∧ marks.count false + (b :: tl).length ≤ gk ∧ Aside0 (CW w W G A0 A1 A2 A3 c0 c1 c2 c3 (.slice (some ⟨gb, 0, none⟩) G.rules.length cap) marks) ∧ Aside0 (kI.Q 3 W (w.heap.size + 1) (fun _ => True) q (b :: tl)) ∧ Aside0 (RcSt G may marks (b :: tl)) ∧ Aside0 (∀ j, j < i → Did G may marks b j)) (fun a _ _ => G.prods.length - (intOf a).toNat)
      case atStart => exact ⟨0, marks, tl, rfl, Nat.zero_le _, hkk, HX, HQ, HS, ⟨fun j hj => absurd hj (by omega)⟩⟩
      case round =>
        clear HX HQ HS hk hkk hh e0 e1 e2 e3 e4 hpos
        obtain ⟨i, marks, tl, rfl, hi, hk, HX, HQ, HS, HD⟩ := hrel
        by_cases hlt : i < G.prods.length
        · have HLT := Aside0.mk hlt
          obtain ⟨ad, B1, d1, B6, d6, rfl, x0, x1, x2, x3, x4, x5, x6, hl1, hC1, hl6, hC6⟩ := at_T57 HG.out.prods (i : Int) (by omega) (by omega)
          simp only [Int.toNat_natCast] at x0 x1 x2 x3 x4 x5 x6
          have y0 := HX.out.chk.fr.cell x0 id
          have y1 := HX.out.chk.fr.cell x1 id
          have y2 := HX.out.chk.fr.cell x2 id
          have y3 := HX.out.chk.fr.cell x3 id
          have y4 := HX.out.chk.fr.cell x4 id
          have y5 := HX.out.chk.fr.cell x5 id
          have y6 := HX.out.chk.fr.cell x6 id
          have HC1 := Aside0.mk hC1
          have HMI := Aside0.mk (fun W hF => HM.out i W B1 B6 d1 d6 hlt hF hC6 hC1 hl1)
          have HPI := Aside0.mk (HC.out.prodsOk i hlt)
          clear x0 x1 x2 x3 x4 x5 x6 hC1 hC6 hl6 hl1
          go_upto_region 9 with fail
          have HXA := Aside0.mk (HX.out.go ((Fr.refl (fun _ => False) wr).alloc (.cells #[.int .i64 (rd_T57 G.prods (i : Int)).f0, .slice B1 (rd_T57 G.prods (i : Int)).f1.length d1, .int .i64 (rd_T57 G.prods (i : Int)).f2, .int .i64 (rd_T57 G.prods (i : Int)).f3.f0, .int .i64 (rd_T57 G.prods (i : Int)).f3.f1, .string (rd_T57 G.prods (i : Int)).f3.f2, .slice B6 (rd_T57 G.prods (i : Int)).f3.f3.length d6] 57)))
          have HQA := Aside0.mk (Kd.Q_alloc HQ.out (.cells #[.int .i64 (rd_T57 G.prods (i : Int)).f0, .slice B1 (rd_T57 G.prods (i : Int)).f1.length d1, .int .i64 (rd_T57 G.prods (i : Int)).f2, .int .i64 (rd_T57 G.prods (i : Int)).f3.f0, .int .i64 (rd_T57 G.prods (i : Int)).f3.f1, .string (rd_T57 G.prods (i : Int)).f3.f2, .slice B6 (rd_T57 G.prods (i : Int)).f3.f3.length d6] 57))
          have HPB := Aside0.mk (blk_new wr (.cells #[.int .i64 (rd_T57 G.prods (i : Int)).f0, .slice B1 (rd_T57 G.prods (i : Int)).f1.length d1, .int .i64 (rd_T57 G.prods (i : Int)).f2, .int .i64 (rd_T57 G.prods (i : Int)).f3.f0, .int .i64 (rd_T57 G.prods (i : Int)).f3.f1, .string (rd_T57 G.prods (i : Int)).f3.f2, .slice B6 (rd_T57 G.prods (i : Int)).f3.f3.length d6] 57))
          generalize wr.alloc (.cells #[.int .i64 (rd_T57 G.prods (i : Int)).f0, .slice B1 (rd_T57 G.prods (i : Int)).f1.length d1, .int .i64 (rd_T57 G.prods (i : Int)).f2, .int .i64 (rd_T57 G.prods (i : Int)).f3.f0, .int .i64 (rd_T57 G.prods (i : Int)).f3.f1, .string (rd_T57 G.prods (i : Int)).f3.f2, .slice B6 (rd_T57 G.prods (i : Int)).f3.f3.length d6] 57) = W5 at HXA HPB HQA ⊢
          generalize wr.heap.size = q at HPB ⊢
          clear y0 y1 y2 y3 y4 y5 y6 HX HQ
          have hro := HPI.out.2.2.2
          have hrl := HPI.out.2.2.1
          have hb0 := (HS.out.que b List.mem_cons_self).1
          have hlf0 := HPI.out.1
          have HSN := Aside0.mk (HS.out.snd b.toNat (by rw [Int.toNat_of_nonneg hb0]; exact (HS.out.que b List.mem_cons_self).2.2))
          have HRC := Aside0.mk (show (rd_T57 G.prods (i : Int)).f0 = b → may i = true → ∀ x, x ∈ (rd_T57 G.prods (i : Int)).f1 → (G.kinds.length : Int) ≤ x → Rch G may (x - G.kinds.length).toNat from fun e hm x hx hk => Rch.next (a := b.toNat) (i := i) HSN.out HLT.out (by rw [Int.toNat_of_nonneg hb0]; exact e) hm hx hk)
          have HDN := Aside0.mk (show ∀ marks : List Bool, ((rd_T57 G.prods (i : Int)).f0 = b → may i = true → ∀ x, x ∈ (rd_T57 G.prods (i : Int)).f1 → Marked G marks x) → Did G may marks b i from fun _ h => h)
          rw [show rd_T57 G.prods i = rd_T57 G.prods (i : Int) from rfl] at hro hrl hlf0
          have HRO := Aside0.mk hro
          clear hro HSN hlf0
          have HPI : Aside0 (0 ≤ (rd_T57 G.prods (i : Int)).f0 ∧ (rd_T57 G.prods (i : Int)).f0 < G.rules.length) := ⟨HPI.out.1, HPI.out.2.1⟩
          generalize rd_T57 G.prods (i : Int) = pr at HPB HMI HPI HRC HDN HRO hrl HC1 ⊢
          obtain ⟨g, o, c, rfl, hh⟩ := queue_head HQA.out
          have z0 := (blk_cell HPB.out 0).trans (show _ = some (Value.int .i64 pr.f0) from rfl)
          have z1 := (blk_cell HPB.out 1).trans (show _ = some (Value.slice B1 pr.f1.length d1) from rfl)
          have z2 := (blk_cell HPB.out 2).trans (show _ = some (Value.int .i64 pr.f2) from rfl)
          have z3 := (blk_cell HPB.out 3).trans (show _ = some (Value.int .i64 pr.f3.f0) from rfl)
          have z4 := (blk_cell HPB.out 4).trans (show _ = some (Value.int .i64 pr.f3.f1) from rfl)
          have z5 := (blk_cell HPB.out 5).trans (show _ = some (Value.string pr.f3.f2) from rfl)
          have z6 := (blk_cell HPB.out 6).trans (show _ = some (Value.slice B6 pr.f3.f3.length d6) from rfl)
          have hn9 : ∀ e : Bool, may i = e → may i = e := fun _ h => h
          by_cases hl : pr.f0 = b
          · rw [hl] at z0 HMI HRC HDN
            cases hmi : may i with
            | false =>
              have HDI := Aside0.mk (show Did G may marks b i from HDN.out marks (fun _ h => by rw [hmi] at h; cases h))
              rw [hmi] at HMI
              go_wp2_with (fail)
              go_region_held3 (fun w' => w'.cell? ⟨q, 0, none⟩ = some (.int .i64 b) ∧ w'.cell? ⟨q, 1, none⟩ = some (.slice B1 pr.f1.length d1) ∧ w'.cell? ⟨q, 2, none⟩ = some (.int .i64 pr.f2) ∧ w'.cell? ⟨q, 3, none⟩ = some (.int .i64 pr.f3.f0) ∧ w'.cell? ⟨q, 4, none⟩ = some (.int .i64 pr.f3.f1) ∧ w'.cell? ⟨q, 5, none⟩ = some (.string pr.f3.f2) ∧ w'.cell? ⟨q, 6, none⟩ = some (.slice B6 pr.f3.f3.length d6) ∧ w'.cell? ⟨g, o, none⟩ = some (.int .i64 b)) (go_keep)
                (first | (go_at_call 40; refine (HMI.out _ (HXA.out.chk.fr.trans ((Fr.refl (fun _ => False) W5).drew) (fun _ _ hf => hf))).mono ?_; rintro e W6 ⟨rfl, hF6⟩; have HF6 := Aside0.mk (((Fr.refl (fun _ => False) W5).drew).trans hF6 (fun _ _ hf => hf)); have HPB6 := Aside0.mk (HF6.out.blk HPB.out id); have t0 := HF6.out.cell z0 id; have t1 := HF6.out.cell z1 id; have t2 := HF6.out.cell z2 id; have t3 := HF6.out.cell z3 id; have t4 := HF6.out.cell z4 id; have t5 := HF6.out.cell z5 id; have t6 := HF6.out.cell z6 id; have th := HF6.out.cell hh id; clear hF6))
              have HX6 := Aside0.mk (HXA.out.go HF6.out)
              have HQ6 := Aside0.mk (Kd.Q_below HQA.out HF6.out.to_below)
              have HD6 := Aside0.mk (show ∀ j, j < i + 1 → Did G may marks b j from fun j hj => by
                by_cases ej : j = i
                · rw [ej]; exact HDI.out
                · exact HD.out j (by omega))
              go_wp2_with (fail)
              exact ⟨⟨i + 1, marks, tl, by go_num, HLT.out, hk, HX6, HQ6, HS, HD6⟩, by have := HLT.out; simp [intOf]; omega⟩
            | true =>
              rw [hmi] at HMI HRC
              have HDN2 := Aside0.mk (show ∀ marks : List Bool, (∀ x, x ∈ pr.f1 → Marked G marks x) → Did G may marks b i from fun m h => HDN.out m (fun _ _ => h))
              have HRC2 := Aside0.mk (show ∀ x, x ∈ pr.f1 → (G.kinds.length : Int) ≤ x → Rch G may (x - G.kinds.length).toNat from HRC.out rfl rfl)
              clear HDN HRC hn9
              go_wp2_with (fail)
              go_region_held3 (fun w' => w'.cell? ⟨q, 0, none⟩ = some (.int .i64 b) ∧ w'.cell? ⟨q, 1, none⟩ = some (.slice B1 pr.f1.length d1) ∧ w'.cell? ⟨q, 2, none⟩ = some (.int .i64 pr.f2) ∧ w'.cell? ⟨q, 3, none⟩ = some (.int .i64 pr.f3.f0) ∧ w'.cell? ⟨q, 4, none⟩ = some (.int .i64 pr.f3.f1) ∧ w'.cell? ⟨q, 5, none⟩ = some (.string pr.f3.f2) ∧ w'.cell? ⟨q, 6, none⟩ = some (.slice B6 pr.f3.f3.length d6) ∧ w'.cell? ⟨g, o, none⟩ = some (.int .i64 b)) (go_keep)
                (first | (go_at_call 40; refine (HMI.out _ (HXA.out.chk.fr.trans ((Fr.refl (fun _ => False) W5).drew) (fun _ _ hf => hf))).mono ?_; rintro e W6 ⟨rfl, hF6⟩; have HF6 := Aside0.mk (((Fr.refl (fun _ => False) W5).drew).trans hF6 (fun _ _ hf => hf)); have HPB6 := Aside0.mk (HF6.out.blk HPB.out id); have t0 := HF6.out.cell z0 id; have t1 := HF6.out.cell z1 id; have t2 := HF6.out.cell z2 id; have t3 := HF6.out.cell z3 id; have t4 := HF6.out.cell z4 id; have t5 := HF6.out.cell z5 id; have t6 := HF6.out.cell z6 id; have th := HF6.out.cell hh id; clear hF6))
              have HX6 := Aside0.mk (HXA.out.go HF6.out)
              have HQ6 := Aside0.mk (Kd.Q_below HQA.out HF6.out.to_below)
              clear HXA HQA HPB HMI HF6 z0 z1 z2 z3 z4 z5 z6 hh hmi
              go_wp2_with (fail)
              clear HPB6 t0 t1 t2 t3 t4 t5 t6 th
              go_loopw [50, 6] (fun a q W => ∃ (t : Nat) (marks : List Bool) (tl : List Int), a = .int .i64 t ∧ t ≤ pr.f1.length ∧ marks.count false + (b :: tl).length ≤ gk ∧ Aside0 (CW w W G A0 A1 A2 (some ad) c0 c1 c2 c3 (.slice (some ⟨gb, 0, none⟩) G.rules.length cap) marks) ∧ Aside0 (kI.Q 3 W (w.heap.size + 1) (fun _ => True) q (b :: tl)) ∧ Aside0 (RcSt G may marks (b :: tl)) ∧ Aside0 (∀ j, j < i → Did G may marks b j) ∧ Aside0 (∀ x, x ∈ pr.f1.take t → Marked G marks x)) (fun a _ _ => pr.f1.length - (intOf a).toNat)
              case atStart => exact ⟨0, marks, tl, rfl, Nat.zero_le _, hk, HX6, HQ6, HS, HD, ⟨fun x hx => by simp at hx⟩⟩
              case round =>
                clear HX6 HQ6 HS HD hk
                obtain ⟨t, marks, tl, rfl, ht, hk, HX, HQ, HS, HD, HT⟩ := hrel
                by_cases htl : t < pr.f1.length
                · have HTL := Aside0.mk htl
                  obtain ⟨ax, rfl, hx⟩ := Kd.at_int (HX.out.chk.fr.C (S := fun _ => False) (0 : Int) HC1.out (fun _ _ _ => id)) (t : Int) (by omega) (by omega)
                  simp only [Int.toNat_natCast] at hx
                  obtain ⟨hx1, hx2⟩ := HRO.out t htl
                  have HMX := Aside0.mk (show rd pr.f1 (t : Int) ∈ pr.f1 from rd_mem htl)
                  have HTK := Aside0.mk (show ∀ y, y ∈ pr.f1.take (t + 1) → y ∈ pr.f1.take t ∨ y = rd pr.f1 (t : Int) from fun y hy => by
                    rw [List.take_add_one, List.getElem?_eq_getElem HTL.out] at hy
                    simp only [Option.toList_some, List.mem_append, List.mem_singleton] at hy
                    rcases hy with hy | hy
                    · exact .inl hy
                    · exact .inr (by rw [hy]; simp [rd, List.getD_eq_getElem?_getD, HTL.out]))
                  generalize rd pr.f1 (t : Int) = x at hx hx1 hx2 HMX HTK
                  obtain ⟨e0, e1, e2, e3, e4⟩ := HX.out.chk.cells
                  go_wp2_with (fail)
                  refine (isRule_calls _ G A0 A1 A2 (some ad) c0 c1 c2 c3 (HG.out.go HX.out.chk.fr) hK2 x hx1 (by omega)).mono ?_
                  rintro e W7 ⟨rfl, hF7⟩
                  have HX7 := Aside0.mk (HX.out.go hF7)
                  have HQ7 := Aside0.mk (Kd.Q_below HQ.out hF7.to_below)
                  clear HX HQ hF7 e0 e1 e2 e3 e4 hx
                  by_cases hxk : x < G.kinds.length
                  · rw [if_pos hxk]
                    have HT2 := Aside0.mk (show ∀ y, y ∈ pr.f1.take (t + 1) → Marked G marks y from fun y hy => by
                      rcases HTK.out y hy with hy | rfl
                      · exact HT.out y hy
                      · exact fun h => absurd hxk (by omega))
                    go_wp2_with (fail)
                    exact ⟨⟨t + 1, marks, tl, by go_num, HTL.out, hk, HX7, HQ7, HS, HD, HT2⟩, by have := HTL.out; simp [intOf]; omega⟩
                  · rw [if_neg hxk]
                    have HRX := Aside0.mk (HRC2.out x HMX.out (by omega))
                    have ha0 : 0 ≤ x - G.kinds.length := by omega
                    have ha1 : x - G.kinds.length < G.rules.length := by omega
                    have HEQ := Aside0.mk (show (x - G.kinds.length : Int) = x - G.kinds.length from rfl)
                    have HMK := Aside0.mk (show ∀ marks : List Bool, rdOf false marks (x - G.kinds.length) = true → Marked G marks x from fun _ h _ => h)
                    clear HEQ
                    generalize x - (G.kinds.length : Int) = a at ha0 ha1 HRX HMK ⊢
                    obtain ⟨hm, hfz⟩ := HX7.out.at HS.out.len ha0 ha1
                    cases hma : rdOf false marks a with
                    | true =>
                      rw [hma] at hm
                      have HT2 := Aside0.mk (show ∀ y, y ∈ pr.f1.take (t + 1) → Marked G marks y from fun y hy => by
                        rcases HTK.out y hy with hy | rfl
                        · exact HT.out y hy
                        · exact HMK.out _ hma)
                      go_wp2_with (fail)
                      exact ⟨⟨t + 1, marks, tl, by go_num, HTL.out, hk, HX7, HQ7, HS, HD, HT2⟩, by have := HTL.out; simp [intOf]; omega⟩
                    | false =>
                      rw [hma] at hm
                      obtain ⟨hS8, hc8⟩ := HS.out.push ha0 ha1 HRX.out hma
                      have HX8 := Aside0.mk (HX7.out.mark HS.out.len a).1
                      have HQ8 := Aside0.mk (queue_mark HX7.out HQ7.out a.toNat (.bool true))
                      have HS8 := Aside0.mk (show RcSt G may (marks.set a.toNat true) (b :: (tl ++ [a])) from hS8)
                      have hk8 : (marks.set a.toNat true).count false + (b :: (tl ++ [a])).length ≤ gk := by
                        have : (b :: (tl ++ [a])) = (b :: tl) ++ [a] := rfl
                        rw [this, hc8]
                        exact hk
                      have HD8 := Aside0.mk (show ∀ j, j < i → Did G may (marks.set a.toNat true) b j from fun j hj => (HD.out j hj).set)
                      have HT8 := Aside0.mk (show ∀ y, y ∈ pr.f1.take (t + 1) → Marked G (marks.set a.toNat true) y from fun y hy => by
                        rcases HTK.out y hy with hy | rfl
                        · exact fun h => marked_set (HT.out y hy h)
                        · refine HMK.out _ ?_
                          have := rdOf_set (l := marks) (i := a.toNat) (by rw [HS.out.len]; omega) a.toNat
                          rwa [if_pos rfl, Int.toNat_of_nonneg ha0] at this)
                      have HLEN := Aside0.mk (show (b :: tl).length ≤ 2048 by omega)
                      clear hS8 hc8 HS HD HT HMK HTK hk HRX hma
                      go_upto_region 16 with fail
                      clear hm hfz HX7 HQ7
                      generalize W7.setCell ⟨gb, a.toNat, none⟩ (.bool true) = W8 at HX8 HQ8 ⊢
                      go_wp2_with (first | ((with_reducible refine gate_builtin (b := .append) (xs := #[.tmp 69, .tmp 71]) rfl ?_); at_builtin; refine Kd.Q_append kI (w0 := W8) (w.heap.size + 1) rfl (.tmp 69) (.tmp 71) 27 3 (.int .i64 0) 8 rfl Try.underlying27 info3 rfl (by decide) (by omega) _ (b :: tl) a [.int .i64 a] (fun _ => True) (fun _ => False) rfl rfl ?aP (fun _ hk => hk.elim) ?aF HQ8.out ?aB ?aS ?aL ?_; (case aP => exact rfl); (case aF => exact (fun _ _ => trivial)); (case aB => exact Below.refl _ _); (case aS => exact (blk_lt HX8.out.chk.box)); (case aL => have := HLEN.out; omega); intro v9 W9 hq9 hb9 hg9 hat9; have HX9 := Aside0.mk (HX8.out.over HQ8.out hg9); have HQ9 := Aside0.mk (show kI.Q 3 W9 (w.heap.size + 1) (fun _ => True) v9 (b :: (tl ++ [a])) from hq9); clear hq9 hb9 hg9 hat9))
                      exact ⟨⟨t + 1, _, _, by go_num, HTL.out, hk8, HX9, HQ9, HS8, HD8, HT8⟩, by have := HTL.out; simp [intOf]; omega⟩
                · obtain rfl : t = pr.f1.length := by omega
                  have HD6 := Aside0.mk (show ∀ j, j < i + 1 → Did G may marks b j from fun j hj => by
                    by_cases ej : j = i
                    · rw [ej]; exact HDN2.out marks (fun x hx => HT.out x (by rw [List.take_length]; exact hx))
                    · exact HD.out j (by omega))
                  go_wp2_with (fail)
                  exact ⟨⟨i + 1, marks, tl, by go_num, HLT.out, hk, HX, HQ, HS, HD6⟩, by have := HLT.out; simp [intOf]; omega⟩
          · have HDI := Aside0.mk (show Did G may marks b i from HDN.out marks (fun h => absurd h hl))
            go_wp2_with (fail)
            refine wp_region_held_drew (S := fun w' => w'.cell? ⟨q, 0, none⟩ = some (.int .i64 pr.f0) ∧ w'.cell? ⟨g, o, none⟩ = some (.int .i64 b)) (by kernel_rfl) ⟨by simp only [World.cell?_drew]; exact z0, by simp only [World.cell?_drew]; exact hh⟩ (fun hHeld => ?_)
            refine wpAnyH_take (i := 0) (oi := ?o0) (v := ?v0) ?ho0 (by kernel_rfl) (by kernel_rfl) (by kernel_rfl) ?hq0 ?hy0 (by assumption) ?rest0
            case ho0 => (simp only [List.getElem?_toArray, List.getElem?_cons_zero]; rfl)
            case hq0 => exact fun _ _ _ h => h
            case hy0 => (refine Or.inl ⟨by rfl, ?_⟩; intro w0 hSw; (try dsimp only at hSw); go_simp; try with_reducible rfl)
            try simp only [Act.put, List.setIfInBounds_toArray, List.set_cons_zero, List.set_cons_succ]
            refine wpAnyH_take (i := 1) (oi := ?o1) (v := ?v1) ?ho1 (by kernel_rfl) (by kernel_rfl) (by kernel_rfl) ?hq1 ?hy1 (by assumption) ?rest1
            case ho1 => (simp only [List.getElem?_toArray, List.getElem?_cons_succ, List.getElem?_cons_zero]; rfl)
            case hq1 => exact fun _ _ _ h => h
            case hy1 => (refine Or.inl ⟨by rfl, ?_⟩; intro w0 hSw; (try dsimp only at hSw); go_simp; try with_reducible rfl)
            try simp only [Act.put, List.setIfInBounds_toArray, List.set_cons_zero, List.set_cons_succ]
            refine wpAnyH_take (i := 2) (oi := ?o2) (v := ?v2) ?ho2 (by kernel_rfl) (by kernel_rfl) (by kernel_rfl) ?hq2 ?hy2 (by assumption) ?rest2
            case ho2 => (simp only [List.getElem?_toArray, List.getElem?_cons_succ, List.getElem?_cons_zero]; rfl)
            case hq2 => exact fun _ _ _ h => h
            case hy2 => (refine Or.inl ⟨by rfl, ?_⟩; intro w0 hSw; (try dsimp only at hSw); go_simp; try with_reducible rfl)
            try simp only [Act.put, List.setIfInBounds_toArray, List.set_cons_zero, List.set_cons_succ]
            refine wpAnyH_take (i := 3) (oi := ?o3) (v := ?v3) ?ho3 (by kernel_rfl) (by kernel_rfl) (by kernel_rfl) ?hq3 ?hy3 (by assumption) ?rest3
            case ho3 => (simp only [List.getElem?_toArray, List.getElem?_cons_succ, List.getElem?_cons_zero]; rfl)
            case hq3 => exact fun _ _ _ h => h
            case hy3 => (refine Or.inl ⟨by rfl, ?_⟩; intro w0 hSw; (try dsimp only at hSw); go_simp; try with_reducible rfl)
            try simp only [Act.put, List.setIfInBounds_toArray, List.set_cons_zero, List.set_cons_succ]
            refine wpAnyH_take (i := 4) (oi := ?o4) (v := ?v4) ?ho4 (by kernel_rfl) (by kernel_rfl) (by kernel_rfl) ?hq4 ?hy4 (by assumption) ?rest4
            case ho4 => (simp only [List.getElem?_toArray, List.getElem?_cons_succ, List.getElem?_cons_zero]; rfl)
            case hq4 => exact fun _ _ _ h => h
            case hy4 => (refine Or.inl ⟨by rfl, ?_⟩; intro w0 hSw; (try dsimp only at hSw); go_simp; try with_reducible rfl)
            try simp only [Act.put, List.setIfInBounds_toArray, List.set_cons_zero, List.set_cons_succ]
            refine wpAnyH_take (i := 5) (oi := ?o5) (v := .bool true) ?ho5 (by kernel_rfl) (by kernel_rfl) (by kernel_rfl) ?hq5 ?hy5 (by assumption) ?rest5
            case ho5 => (simp only [List.getElem?_toArray, List.getElem?_cons_succ, List.getElem?_cons_zero]; rfl)
            case hq5 => exact fun _ _ _ h => h
            case hy5 => (refine Or.inl ⟨by rfl, ?_⟩; intro w0 hSw; (try dsimp only at hSw); go_simp; try with_reducible rfl)
            try simp only [Act.put, List.setIfInBounds_toArray, List.set_cons_zero, List.set_cons_succ]
            refine wpAnyH_take (i := 6) (oi := ?o6) (v := ?v6) ?ho6 (by kernel_rfl) (by kernel_rfl) (by kernel_rfl) ?hq6 ?hy6 (by assumption) ?rest6
            case ho6 => (simp only [List.getElem?_toArray, List.getElem?_cons_succ, List.getElem?_cons_zero]; rfl)
            case hq6 => exact fun _ _ _ h => h
            case hy6 => (refine Or.inl ⟨by rfl, ?_⟩; intro w0 hSw; (try dsimp only at hSw); go_simp; try with_reducible rfl)
            try simp only [Act.put, List.setIfInBounds_toArray, List.set_cons_zero, List.set_cons_succ]
            refine wpAnyH_take (i := 7) (oi := ?o7) (v := undef) ?ho7 (by kernel_rfl) (by kernel_rfl) (by kernel_rfl) ?hq7 ?hy7 (by assumption) ?rest7
            case ho7 => (simp only [List.getElem?_toArray, List.getElem?_cons_succ, List.getElem?_cons_zero]; rfl)
            case hq7 => exact fun _ _ _ h => h
            case hy7 => exact Or.inr ⟨by rfl, rfl⟩
            try simp only [Act.put, List.setIfInBounds_toArray, List.set_cons_zero, List.set_cons_succ]
            refine wpAnyH_take (i := 8) (oi := ?o8) (v := undef) ?ho8 (by kernel_rfl) (by kernel_rfl) (by kernel_rfl) ?hq8 ?hy8 (by assumption) ?rest8
            case ho8 => (simp only [List.getElem?_toArray, List.getElem?_cons_succ, List.getElem?_cons_zero]; rfl)
            case hq8 => exact fun _ _ _ h => h
            case hy8 => exact Or.inr ⟨by rfl, rfl⟩
            try simp only [Act.put, List.setIfInBounds_toArray, List.set_cons_zero, List.set_cons_succ]
            refine wpAnyH_ready (rs := [9]) (by kernel_rfl) (by simp) ?_
            refine AllReadyH.cons (o := ?o9) ?ho9 ?hs9 AllReadyH.nil
            case ho9 => (simp only [List.getElem?_toArray, List.getElem?_cons_succ, List.getElem?_cons_zero]; rfl)
            intro K hK
            go_simp
            refine hK.out _ _ (by assumption) (fun hHeld => ?_)
            clear hK K
            try simp only [Act.put, List.setIfInBounds_toArray, List.set_cons_zero, List.set_cons_succ]
            refine wpAnyH_take (i := 10) (oi := ?o10) (v := undef) ?ho10 (by kernel_rfl) (by kernel_rfl) (by kernel_rfl) ?hq10 ?hy10 (by assumption) ?rest10
            case ho10 => (simp only [List.getElem?_toArray, List.getElem?_cons_succ, List.getElem?_cons_zero]; rfl)
            case hq10 => exact fun _ _ _ h => h
            case hy10 => exact Or.inr ⟨by rfl, rfl⟩
            try simp only [Act.put, List.setIfInBounds_toArray, List.set_cons_zero, List.set_cons_succ]
            refine wpAnyH_take (i := 11) (oi := ?o11) (v := ?v11) ?ho11 (by kernel_rfl) (by kernel_rfl) (by kernel_rfl) ?hq11 ?hy11 (by assumption) ?rest11
            case ho11 => (simp only [List.getElem?_toArray, List.getElem?_cons_succ, List.getElem?_cons_zero]; rfl)
            case hq11 => exact fun _ _ _ h => h
            case hy11 => (refine Or.inl ⟨by rfl, ?_⟩; intro w0 hSw; (try dsimp only at hSw); go_simp; try with_reducible rfl)
            try simp only [Act.put, List.setIfInBounds_toArray, List.set_cons_zero, List.set_cons_succ]
            refine wpAnyH_done (by kernel_rfl) ?_ _
            have HX6 := Aside0.mk (HXA.out.go (Fr.refl (fun _ => False) W5).drew)
            have HQ6 := Aside0.mk (Kd.Q_drew HQA.out)
            have HD6 := Aside0.mk (show ∀ j, j < i + 1 → Did G may marks b j from fun j hj => by
              by_cases ej : j = i
              · rw [ej]; exact HDI.out
              · exact HD.out j (by omega))
            go_wp2_with (fail)
            exact ⟨⟨i + 1, marks, tl, by go_num, HLT.out, hk, HX6, HQ6, HS, HD6⟩, by have := HLT.out; simp [intOf]; omega⟩
        · obtain rfl : i = G.prods.length := by omega
          obtain ⟨A, c, rfl, _⟩ := Kd.Q_slice HQ.out
          obtain ⟨A', n', c', hcut, hQ'⟩ := queue_cut HQ.out (by simp)
          have HQ' := Aside0.mk (show kI.Q 3 wr (w.heap.size + 1) (fun _ => True) (.slice A' n' c') tl from hQ')
          have HS' := Aside0.mk (HS.out.pop HD.out)
          clear hQ'
          simp only [List.length_cons] at hk hcut ⊢
          go_wp2_with (fail)
          go_roundg (gk - 1)
          case measure => omega
          case rel => exact ⟨marks, tl, by omega, by omega, HX, HQ', HS'⟩
end Go.Proofs.Ytdngobjcdajogaa.Gram
