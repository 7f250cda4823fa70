/-
What is known of a grammar: gram.know, walked.
-/
import Derived.Test.YtdngobjcdajogaaT9QE
import Derived.Test.YtdngobjcdajogaaT9QD
namespace Go.Proofs.Ytdngobjcdajogaa.Gram
open Go.RowKit Go.Proofs.YtdngobjcdajogaaW.PrintWords Go.Proofs.YtdngobjcdajogaaW.PrintLast Go.Proofs.YtdngobjcdajogaaW.PrintMore Go.Proofs.Ytdngobjcdajogaa.Fr Go.Proofs.Ytdngobjcdajogaa.PGramFirsts Go.Proofs.Ytdngobjcdajogaa.TextSet
/-- What is known lies in block p; the marks lie below mid, the sets between mid and p. -/
structure KSt (w W : World) (p mid : Nat) (G : Gr) (A0 A1 A2 A3 NA FA : Option Addr) (c0 c1 c2 c3 nc fc : Nat) (N : List Bool) (F : List (List Bool)) : Prop where
  chk : ChkW w W G A0 A1 A2 A3 c0 c1 c2 c3
  box : W.heap[p]? = some (.cells #[.slice A0 G.kinds.length c0, .slice A1 G.precs.length c1, .slice A2 G.rules.length c2, .slice A3 G.prods.length c3, .int .i64 G.start, .slice NA G.rules.length nc, .slice FA G.rules.length fc] 79 (0, 0))
  lo : w.heap.size < mid
  hi : mid ≤ p
  null : kB.R 4 W (w.heap.size + 1) (fun k => k < mid) (.slice NA G.rules.length nc) N
  first : Kd.S kR 36 W mid (fun k => k < p) (.slice FA G.rules.length fc) F
theorem KSt.go {w W W1 : World} {p mid : Nat} {G : Gr} {A0 A1 A2 A3 NA FA : Option Addr} {c0 c1 c2 c3 nc fc : Nat} {N : List Bool} {F : List (List Bool)} (h : KSt w W p mid G A0 A1 A2 A3 NA FA c0 c1 c2 c3 nc fc N F) (hF : Fr (fun _ => False) W W1) : KSt w W1 p mid G A0 A1 A2 A3 NA FA c0 c1 c2 c3 nc fc N F :=
  ⟨h.chk.go hF, hF.blk h.box id, h.lo, h.hi, hF.R h.null (fun _ _ => id), Kd.S_below h.first hF.to_below⟩
theorem KSt.at {w W : World} {p mid : Nat} {G : Gr} {A0 A1 A2 A3 NA FA : Option Addr} {c0 c1 c2 c3 nc fc : Nat} {N : List Bool} {F : List (List Bool)} (h : KSt w W p mid G A0 A1 A2 A3 NA FA c0 c1 c2 c3 nc fc N F) (hg : GAt w G A0 A1 A2 A3 c0 c1 c2 c3) (hn : N.length = G.rules.length) (hs : Sized G F) : KAt W p G A0 A1 A2 A3 NA FA c0 c1 c2 c3 nc fc N F :=
  ⟨by rw [hn, hs.fl]; exact h.box, hg.go h.chk.fr, (Kd.R_reads' h.null).2.2, (Kd.S_reads' h.first).2.2, hn, hs.fl, hs.fk⟩
/-- The sets of rule a: where they lie, and that they may be written. -/
theorem sets_borrow {W : World} {p mid gb fc : Nat} {G : Gr} {F : List (List Bool)} (h : Kd.S kR 36 W mid (fun k => k < p) (.slice (some ⟨gb, 0, none⟩) G.rules.length fc) F) (hs : Sized G F) (hK : 1 ≤ G.kinds.length) {a : Int} (ha : 0 ≤ a) (ha2 : a < G.rules.length) :
    ∃ g cr, W.cell? ⟨gb, a.toNat, none⟩ = some (.slice (some ⟨g, 0, none⟩) G.kinds.length cr) ∧ mid ≤ g ∧ g < p ∧ g ≠ gb ∧ kB.R 4 W mid (fun k => k = g) (.slice (some ⟨g, 0, none⟩) G.kinds.length cr) (rd_L7 F a) ∧
      ∀ (w1 : World) (x' : List Bool), Fr (fun k => k = g) W w1 → x'.length = G.kinds.length → kB.R 4 w1 mid (fun k => k = g) (.slice (some ⟨g, 0, none⟩) G.kinds.length cr) x' → Kd.S kR 36 w1 mid (fun k => k < p) (.slice (some ⟨gb, 0, none⟩) G.rules.length fc) (F.set a.toNat x') := by
  have hfk := hs.fk a.toNat (by omega)
  have ea : ((a.toNat : Nat) : Int) = a := by omega
  rw [ea] at hfk
  obtain ⟨oki, cs, _, hM, hcc, hoki, hback⟩ := Kd.S_borrow h [] a ha ha2
  obtain ⟨ve, rfl, hR⟩ := hM
  have hR : kB.R 4 W mid oki ve (rd_L7 F a) := hR
  obtain ⟨g, cap, rfl⟩ := marks_form hR (by omega)
  rw [hfk] at hR hcc hback
  have hc0 := hcc 0 _ rfl
  rw [Nat.add_zero, show kR.sz = 1 from rfl, Nat.mul_one, add_plain] at hc0
  have hog := hR.1 g rfl
  have hgo : g < p ∧ g ≠ gb := ⟨(hoki g hog).1, fun e => (hoki g hog).2 (by rw [e]; rfl)⟩
  refine ⟨g, cap, hc0, Kd.R_base hR g rfl, hgo.1, hgo.2, ?_, fun w1 x' hF _ hx => ?_⟩
  · exact Kd.R_mono (Kd.R_tight rfl hR) (fun k hk => by injection hk)
  · exact hback (row := some g) ⟨hF.os, hF.tape, hF.output, hF.size, fun i hi hn => hF.block i hi (fun e => hn (by rw [e]))⟩ (fun k hk => by injection hk with hk; rw [← hk]; exact hog) ⟨_, rfl, Kd.R_mono hx (fun k hk => by rw [hk]; exact hog)⟩
/-- Marks are laid into the sets of rule a. -/
theorem kjoin_calls {w W : World} {p mid gb fc : Nat} {G : Gr} {A0 A1 A2 A3 NA : Option Addr} {c0 c1 c2 c3 nc : Nat} {N : List Bool} {F : List (List Bool)} (h : KSt w W p mid G A0 A1 A2 A3 NA (some ⟨gb, 0, none⟩) c0 c1 c2 c3 nc fc N F) (hs : Sized G F) (hK : 1 ≤ G.kinds.length) {a : Int} (ha : 0 ≤ a) (ha2 : a < G.rules.length) {A : Option Addr} {c : Nat} {f : List Bool} {base : Nat} (hf : kB.R 4 W base (fun _ => True) (.slice A f.length c) f) (hb : p ≤ base) (hl : f.length = G.kinds.length) :
    ∃ Ar cr, W.cell? ⟨gb, a.toNat, none⟩ = some (.slice Ar G.kinds.length cr) ∧ ∀ W1, Fr (fun _ => False) W W1 →
      Calls Try.prog 67 #[.slice Ar G.kinds.length cr, .slice A G.kinds.length c] W1 fun e w' => e = .returned (.bool (someL (rd_L7 F a) f G.kinds.length)) ∧ KSt w w' p mid G A0 A1 A2 A3 NA (some ⟨gb, 0, none⟩) c0 c1 c2 c3 nc fc N (F.set a.toNat (joinL (rd_L7 F a) f G.kinds.length)) ∧ w'.cell? ⟨gb, a.toNat, none⟩ = some (.slice Ar G.kinds.length cr) ∧ Fr (fun k => mid ≤ k ∧ k < p ∧ k ≠ gb) W1 w' := by
  have hfk := hs.fk a.toNat (by omega)
  have ea : ((a.toNat : Nat) : Int) = a := by omega
  rw [ea] at hfk
  obtain ⟨g, cr, hc, _⟩ := sets_borrow h.first hs hK ha ha2
  refine ⟨_, _, hc, fun W1 hF1 => ?_⟩
  have h1 := h.go hF1
  obtain ⟨g2, cr2, hc2, hm, hp, hne, hR, hback⟩ := sets_borrow h1.first hs hK ha ha2
  rw [hF1.cell hc id] at hc2
  injection hc2 with hc2
  injection hc2 with e1 _ e2
  injection e1 with e1
  injection e1 with e1
  subst e1 e2
  have hf1 := hF1.R hf (fun _ _ => id)
  rw [← hfk] at hR
  have hj := join_calls W1 mid g cr (fun k => k = g) (rd_L7 F a) f A c hR (Kd.R_reads' hf1).2.2 (fun ad e hpos => by
    subst e
    obtain ⟨g3, _, e3, hb3, _⟩ := Kd.R_form hf1 hpos
    injection e3 with e3
    injection e3 with e3
    rw [e3]
    show g3 ≠ g
    omega) (by omega)
  rw [hfk, hl] at hj
  refine hj.mono ?_
  rintro e w' ⟨rfl, hR2, hF2⟩
  have hF3 : Fr (fun k => mid ≤ k ∧ k < p ∧ k ≠ gb) W1 w' := hF2.mono (fun k hk => by rw [hk]; exact ⟨hm, hp, hne⟩)
  refine ⟨rfl, ⟨⟨hF3.blk h1.chk.box (by have := h1.lo; omega), h1.chk.fr.trans hF3 (fun k hk e => by have := h1.lo; omega)⟩, hF3.blk h1.box (by omega), h1.lo, h1.hi, hF3.R h1.null (fun k hk e => by omega), ?_⟩, hF3.cell (hF1.cell hc id) (by simp), hF3⟩
  exact hback w' _ hF2 (by rw [joinL_length]; exact hfk) hR2
theorem KSt.start {w W2 W3 : World} {G : Gr} {A0 A1 A2 A3 NA FA : Option Addr} {c0 c1 c2 c3 nc fc : Nat} {N : List Bool} {F : List (List Bool)} (h : ChkW w W3 G A0 A1 A2 A3 c0 c1 c2 c3) (hw : w.heap.size < W2.heap.size) (hN : kB.R 4 W2 (w.heap.size + 1) (fun _ => True) (.slice NA N.length nc) N) (hn : N.length = G.rules.length) (hF : Fr (fun _ => False) W2 W3) (hS : Kd.S kR 36 W3 (W2.heap.size + 1) (fun _ => True) (.slice FA F.length fc) F) (hs : Sized G F) (hR : 1 ≤ G.rules.length) :
    KSt w (W3.alloc (.cells #[.slice A0 G.kinds.length c0, .slice A1 G.precs.length c1, .slice A2 G.rules.length c2, .slice A3 G.prods.length c3, .int .i64 G.start, .slice NA N.length nc, .slice FA F.length fc] 79)) W3.heap.size (W2.heap.size + 1) G A0 A1 A2 A3 NA FA c0 c1 c2 c3 nc fc N F := by
  obtain ⟨gb, cap, e, h1, h2, _⟩ := Kd.S_form hS (by rw [hs.fl]; exact hR)
  rw [hs.fl] at hS ⊢
  rw [hn] at hN ⊢
  refine ⟨h.go ((Fr.refl _ W3).alloc _), blk_new W3 _, by omega, by omega, ?_, ?_⟩
  · exact (hF.alloc _).R (Kd.R_mono (Kd.R_bound hN) (fun k hk => by have := hk.2.2.1; omega)) (fun _ _ => id)
  · exact Kd.S_alloc (Kd.S_mono (Kd.S_bound hS) (fun k hk => hk.2.2.1)) _
theorem KSt.cells {w W : World} {p mid : Nat} {G : Gr} {A0 A1 A2 A3 NA FA : Option Addr} {c0 c1 c2 c3 nc fc : Nat} {N : List Bool} {F : List (List Bool)} (h : KSt w W p mid G A0 A1 A2 A3 NA FA c0 c1 c2 c3 nc fc N F) :
    W.cell? ⟨w.heap.size, 3, none⟩ = some (.slice A3 G.prods.length c3) ∧ W.cell? ⟨p, 6, none⟩ = some (.slice FA G.rules.length fc) :=
  ⟨h.chk.cells.2.2.2.1, (blk_cell h.box 6).trans rfl⟩
def KnowPost (w w' : World) (G : Gr) (A0 A1 A2 A3 : Option Addr) (c0 c1 c2 c3 : Nat) (e : Ending) : Prop :=
  ∃ p mid NA FA nc fc, e = .returned (.pointer (some ⟨p, 0, none⟩)) ∧ KSt w w' p mid G A0 A1 A2 A3 NA FA c0 c1 c2 c3 nc fc (closedL G false) (firstL G)
/-- What row i begins with, by the sets so far. -/
noncomputable def begL (G : Gr) (F : List (List Bool)) (i : Nat) : List Bool := (rowF G.kinds.length (closedL G false) F (List.replicate G.kinds.length false) (rd_T57 G.prods i).f1).1
theorem begL_length {G : Gr} {F : List (List Bool)} (hP : ProdsOk G) (hF : Sized G F) {i : Nat} (hi : i < G.prods.length) : (begL G F i).length = G.kinds.length :=
  (rowF_spec (N := closedL G false) hF _ (List.replicate G.kinds.length false) (hP i hi).2.2.2.syms (by simp)).1
theorem left_len {G : Gr} {F : List (List Bool)} (hP : ProdsOk G) (hF : Sized G F) {i : Nat} (hi : i < G.prods.length) : (rd_L7 F (rd_T57 G.prods i).f0).length = G.kinds.length := by
  have h := hP i hi
  have := hF.fk (rd_T57 G.prods i).f0.toNat (by omega)
  rwa [Int.toNat_of_nonneg h.1] at this
theorem set_same {F : List (List Bool)} {a : Int} (h0 : 0 ≤ a) (h : a < F.length) : F.set a.toNat (rd_L7 F a) = F := by
  apply List.ext_getElem?
  intro j
  rw [List.getElem?_set]
  split
  · rename_i e
    subst e
    rw [if_pos (by omega), rd_L7, List.getD_eq_getElem?_getD, List.getElem?_eq_getElem (by omega)]
    rfl
  · rfl
/-- Nothing was new: the row's beginnings are all there. -/
theorem closed_now {G : Gr} {F : List (List Bool)} (hP : ProdsOk G) (hF : Sized G F) {i : Nat} (hi : i < G.prods.length) (h : someL (rd_L7 F (rd_T57 G.prods i).f0) (begL G F i) G.kinds.length = false) :
    F.set (rd_T57 G.prods i).f0.toNat (joinL (rd_L7 F (rd_T57 G.prods i).f0) (begL G F i) G.kinds.length) = F ∧ ClosedAt G F i := by
  have h1 := begL_length hP hF hi
  have h2 := left_len hP hF hi
  have h3 := hP i hi
  rw [← h1] at h
  constructor
  · have := (join_falses (rd_L7 F (rd_T57 G.prods i).f0) (begL G F i) (by omega) _ (Nat.le_refl _)).2 h
    rw [h1] at this
    rw [this]
    exact set_same h3.1 (by rw [hF.fl]; exact h3.2.1)
  · intro t ht
    refine join_none (by omega) h t ?_
    rw [begL, (rowF_spec (N := closedL G false) hF _ (List.replicate G.kinds.length false) h3.2.2.2.syms (by simp)).2.2, ht, Bool.or_true]
/-- Something was new: there are fewer marks that are not set. -/
theorem falses_now {G : Gr} {F : List (List Bool)} (hP : ProdsOk G) (hF : Sized G F) {i : Nat} (hi : i < G.prods.length) (h : someL (rd_L7 F (rd_T57 G.prods i).f0) (begL G F i) G.kinds.length = true) :
    falses (F.set (rd_T57 G.prods i).f0.toNat (joinL (rd_L7 F (rd_T57 G.prods i).f0) (begL G F i) G.kinds.length)) + 1 ≤ falses F := by
  have h1 := begL_length hP hF hi
  have h2 := left_len hP hF hi
  have h3 := hP i hi
  have h4 := (join_falses (rd_L7 F (rd_T57 G.prods i).f0) (begL G F i) (by omega) _ (Nat.le_refl _)).1
  rw [h1, h, if_pos rfl] at h4
  exact falses_set F _ _ 1 (by rw [hF.fl]; omega) h4
set_option maxHeartbeats 4000000 in
set_option maxRecDepth 100000 in
theorem know_calls (w : World) (G : Gr) (A0 A1 A2 A3 : Option Addr) (c0 c1 c2 c3 : Nat) (h : GAt w G A0 A1 A2 A3 c0 c1 c2 c3) (hc : CheckOk G) :
    Calls Try.prog 27 #[.agg #[.slice A0 G.kinds.length c0, .slice A1 G.precs.length c1, .slice A2 G.rules.length c2, .slice A3 G.prods.length c3, .int .i64 G.start]] w fun e w' =>
      KnowPost w w' G A0 A1 A2 A3 c0 c1 c2 c3 e := by
  have hu := Try.underlying26
  have hu2 := Try.underlying57
  have hu3 := Try.underlying79
  have hm3 := Kd.C_max h.prods
  have hR1 := (base_true hc.base).2.1
  have hR2 := (base_true hc.base).2.2.1
  have hQ2 := (base_true hc.base).2.2.2.2.2
  have hK1 := hc.kinds.two
  have hK2 := hc.kinds.max
  have HG := Aside0.mk h
  have HC := Aside0.mk hc
  have HW := Aside0.mk (show ChkW w (w.alloc (.cells #[.slice A0 G.kinds.length c0, .slice A1 G.precs.length c1, .slice A2 G.rules.length c2, .slice A3 G.prods.length c3, .int .i64 G.start] 26)) G A0 A1 A2 A3 c0 c1 c2 c3 from ⟨blk_new w _, (Fr.refl _ w).alloc _⟩)
  have hws : (w.alloc (.cells #[.slice A0 G.kinds.length c0, .slice A1 G.precs.length c1, .slice A2 G.rules.length c2, .slice A3 G.prods.length c3, .int .i64 G.start] 26)).heap.size = w.heap.size + 1 := by simp only [World.size_alloc]
  clear h hc
  go_enter Try.func27, Try.ntmps27
  go_upto_region 1 with fail
  generalize w.alloc (.cells #[.slice A0 G.kinds.length c0, .slice A1 G.precs.length c1, .slice A2 G.rules.length c2, .slice A3 G.prods.length c3, .int .i64 G.start] 26) = W0 at HW hws ⊢
  obtain ⟨e0, e1, e2, e3, e4⟩ := HW.out.cells
  have HW1 := Aside0.mk (HW.out.go (Fr.refl _ _).drew)
  go_region_held3 (fun w' => w'.cell? ⟨w.heap.size, 0, none⟩ = some (.slice A0 G.kinds.length c0) ∧ w'.cell? ⟨w.heap.size, 1, none⟩ = some (.slice A1 G.precs.length c1) ∧ w'.cell? ⟨w.heap.size, 2, none⟩ = some (.slice A2 G.rules.length c2) ∧ w'.cell? ⟨w.heap.size, 3, none⟩ = some (.slice A3 G.prods.length c3) ∧ w'.cell? ⟨w.heap.size, 4, none⟩ = some (.int .i64 G.start)) (go_keep)
    (first | (go_at_call 31; refine (closed_calls _ G A0 A1 A2 A3 c0 c1 c2 c3 (HG.out.go HW1.out.fr) HC.out false).mono ?_; rintro e W2 ⟨v1, rfl, hR1, hF2⟩; obtain ⟨NA, nc, rfl⟩ := Kd.R_slice hR1; have HW2 := Aside0.mk (HW1.out.go hF2); have HN2 := Aside0.mk (Kd.R_lower hR1 (show w.heap.size + 1 ≤ _ by simp only [World.size_drew]; omega)); obtain ⟨f0, f1, f2, f3, f4⟩ := HW2.out.cells; clear hF2 hR1) | (go_at_call 66; refine (fresh_calls _ G A0 A1 A2 A3 c0 c1 c2 c3 (base_true HC.out.base).2.1 (base_true HC.out.base).2.2.1 (by have := HC.out.kinds.max; omega)).mono ?_; rintro e W3 ⟨v2, rfl, hS3, hF3⟩; obtain ⟨FA, fc, rfl⟩ := Kd.S_slice hS3; have HW3 := Aside0.mk (HW2.out.go hF3); have HS3 := Aside0.mk hS3; have HF3 := Aside0.mk hF3; obtain ⟨g0, g1, g2, g3, g4⟩ := HW3.out.cells; clear hF3 hS3))
  have hw2 : w.heap.size < W2.heap.size := blk_lt HW2.out.box
  have HKS := Aside0.mk (KSt.start HW3.out hw2 HN2.out (closedL_length G false) HF3.out HS3.out (fresh_sized G) hR1)
  generalize W2.heap.size + 1 = mid at HKS
  generalize W3.heap.size = p at HKS ⊢
  generalize W3.alloc (.cells #[.slice A0 G.kinds.length c0, .slice A1 G.precs.length c1, .slice A2 G.rules.length c2, .slice A3 G.prods.length c3, .int .i64 G.start, .slice NA (closedL G false).length nc, .slice FA (freshL G.rules.length G.kinds.length).length fc] 79) = W4 at HKS ⊢
  obtain ⟨gb, rfl⟩ : ∃ gb, FA = some ⟨gb, 0, none⟩ := by
    obtain ⟨gb, cap, e⟩ := sets_form HKS.out.first (by rw [(fresh_sized G).fl]; exact hR1)
    injection e with e1 _ _
    exact ⟨gb, e1⟩
  clear HW HW1 HW2 HW3 HN2 HS3 HF3 hws e0 e1 e2 e3 e4 f0 f1 f2 f3 f4 g0 g1 g2 g3 g4 hw2
  have HZ := Aside0.mk (⟨fresh_sized G, fresh_sound G⟩ : Sized G (freshL G.rules.length G.kinds.length) ∧ Sound G (freshL G.rules.length G.kinds.length))
  have hfz := falses_fresh G.rules.length G.kinds.length
  go_wp2_with (fail)
  go_loopg [4] (G.rules.length * G.kinds.length + 1) (fun k a W => ∃ (sm : Bool) (F : List (List Bool)), a = .bool sm ∧ falses F + (if sm = true then 1 else 0) ≤ k ∧ Aside0 (KSt w W p mid G A0 A1 A2 A3 NA (some ⟨gb, 0, none⟩) c0 c1 c2 c3 nc fc (closedL G false) F) ∧ Aside0 (Sized G F ∧ Sound G F) ∧ Aside0 (sm = false → ∀ i, i < G.prods.length → ClosedAt G F i))
  case atStart => exact ⟨true, _, rfl, by rw [hfz]; simp, HKS, HZ, ⟨fun h => absurd h (by decide)⟩⟩
  case round =>
    clear HKS HZ hfz
    obtain ⟨sm, F, rfl, hk, HKS, HZ, HCL⟩ := hrel
    cases sm with
    | false =>
      have HE := Aside0.mk (first_eq HC.out.prodsOk HZ.out.1 HZ.out.2 (HCL.out rfl))
      have HKE := Aside0.mk (show KSt w wr p mid G A0 A1 A2 A3 NA (some ⟨gb, 0, none⟩) c0 c1 c2 c3 nc fc (closedL G false) (firstL G) by rw [← HE.out]; exact HKS.out)
      clear HKS HE
      go_wp2_with (fail)
      go_ret
      exact ⟨_, _, _, _, _, _, rfl, HKE.out⟩
    | true =>
      simp only [if_pos] at hk
      obtain ⟨e3, _⟩ := HKS.out.cells
      go_wp2_with (fail)
      go_loopw [20, 4] (fun a b W => ∃ (i : Nat) (sm : Bool) (F' : List (List Bool)), a = .int .i64 i ∧ b = .bool sm ∧ i ≤ G.prods.length ∧ falses F' + (if sm = true then 1 else 0) ≤ falses F ∧ Aside0 (KSt w W p mid G A0 A1 A2 A3 NA (some ⟨gb, 0, none⟩) c0 c1 c2 c3 nc fc (closedL G false) F') ∧ Aside0 (Sized G F' ∧ Sound G F') ∧ Aside0 (sm = false → ∀ j, j < i → ClosedAt G F' j)) (fun a _ _ => G.prods.length - (intOf a).toNat)
      case atStart => exact ⟨0, false, F, rfl, rfl, Nat.zero_le _, by simp, HKS, HZ, ⟨fun _ j hj => absurd hj (by omega)⟩⟩
      case round =>
        clear HKS HZ HCL e3
        obtain ⟨i, sm, F', rfl, rfl, hi, hf, HKS, HZ, HCL⟩ := hrel
        by_cases hlt : i < G.prods.length
        · have HLT := Aside0.mk hlt
          obtain ⟨ad, B1, d1, B6, d6, rfl, x0, x1, x2, x3, x4, x5, x6, hl1, hC1, hl6, hC6⟩ := at_T57 HG.out.prods (i : Int) (by omega) (by omega)
          simp only [Int.toNat_natCast] at x0 x1 x2 x3 x4 x5 x6
          have y0 := HKS.out.chk.fr.cell x0 id
          have y1 := HKS.out.chk.fr.cell x1 id
          have y2 := HKS.out.chk.fr.cell x2 id
          have y3 := HKS.out.chk.fr.cell x3 id
          have y4 := HKS.out.chk.fr.cell x4 id
          have y5 := HKS.out.chk.fr.cell x5 id
          have y6 := HKS.out.chk.fr.cell x6 id
          have HC1 := Aside0.mk hC1
          have HPI := Aside0.mk (HC.out.prodsOk i hlt)
          have HI := Aside0.mk (show rd_T57 G.prods i = rd_T57 G.prods (i : Int) from rfl)
          clear x0 x1 x2 x3 x4 x5 x6 hC1 hC6 hl6
          go_upto_region 8 with fail
          have hpq : p < wr.heap.size := blk_lt HKS.out.box
          have HKA := Aside0.mk (HKS.out.go ((Fr.refl (fun _ => False) wr).alloc (.cells #[.int .i64 (rd_T57 G.prods (i : Int)).f0, .slice B1 (rd_T57 G.prods (i : Int)).f1.length d1, .int .i64 (rd_T57 G.prods (i : Int)).f2, .int .i64 (rd_T57 G.prods (i : Int)).f3.f0, .int .i64 (rd_T57 G.prods (i : Int)).f3.f1, .string (rd_T57 G.prods (i : Int)).f3.f2, .slice B6 (rd_T57 G.prods (i : Int)).f3.f3.length d6] 57)))
          have HPB := Aside0.mk (blk_new wr (.cells #[.int .i64 (rd_T57 G.prods (i : Int)).f0, .slice B1 (rd_T57 G.prods (i : Int)).f1.length d1, .int .i64 (rd_T57 G.prods (i : Int)).f2, .int .i64 (rd_T57 G.prods (i : Int)).f3.f0, .int .i64 (rd_T57 G.prods (i : Int)).f3.f1, .string (rd_T57 G.prods (i : Int)).f3.f2, .slice B6 (rd_T57 G.prods (i : Int)).f3.f3.length d6] 57))
          generalize wr.alloc (.cells #[.int .i64 (rd_T57 G.prods (i : Int)).f0, .slice B1 (rd_T57 G.prods (i : Int)).f1.length d1, .int .i64 (rd_T57 G.prods (i : Int)).f2, .int .i64 (rd_T57 G.prods (i : Int)).f3.f0, .int .i64 (rd_T57 G.prods (i : Int)).f3.f1, .string (rd_T57 G.prods (i : Int)).f3.f2, .slice B6 (rd_T57 G.prods (i : Int)).f3.f3.length d6] 57) = W5 at HKA HPB ⊢
          generalize wr.heap.size = q at hpq HPB ⊢
          clear y0 y1 y2 y3 y4 y5 y6 HKS
          have z1 := (blk_cell HPB.out 1).trans (show _ = some (Value.slice B1 (rd_T57 G.prods (i : Int)).f1.length d1) from rfl)
          go_wp2_with (fail)
          refine (row_calls W5 p G A0 A1 A2 (some ad) NA (some ⟨gb, 0, none⟩) B1 c0 c1 c2 c3 nc fc d1 (closedL G false) F' (rd_T57 G.prods (i : Int)).f1 (by
            have := HKA.out.at HG.out (closedL_length G false) HZ.out.1
            exact this) (by omega) hK2 hR2 (Kd.C_below HC1.out HKA.out.chk.fr.to_below) HPI.out.2.2.2).mono ?_
          rintro e W6 ⟨v6, rfl, hR6, hF6⟩
          have hbl := begL_length HC.out.prodsOk HZ.out.1 HLT.out
          have hR6 : kB.R 4 W6 W5.heap.size (fun _ => True) v6 (begL G F' i) := hR6
          obtain ⟨A6, k6, rfl⟩ := Kd.R_slice hR6
          have HK6 := Aside0.mk (HKA.out.go hF6)
          have hp5 : p ≤ W5.heap.size := Nat.le_of_lt (blk_lt HKA.out.box)
          have hq6 : q < W6.heap.size := Nat.lt_of_lt_of_le (blk_lt HPB.out) hF6.size
          have HPB6 := Aside0.mk (hF6.blk HPB.out id)
          have h00 := HPI.out.1
          have h01 := HPI.out.2.1
          have HNOW := Aside0.mk (fun h => closed_now HC.out.prodsOk HZ.out.1 HLT.out (F := F') h)
          have HLESS := Aside0.mk (fun h => falses_now HC.out.prodsOk HZ.out.1 HLT.out (F := F') h)
          have HSZ := Aside0.mk (show ∀ r : List Bool, r.length = G.kinds.length → Sized G (F'.set (rd_T57 G.prods (i : Int)).f0.toNat r) from fun r hr => HZ.out.1.set (by omega) hr)
          have HSO := Aside0.mk (HZ.out.2.next HZ.out.1 HC.out.prodsOk HLT.out)
          have HLL := Aside0.mk (left_len HC.out.prodsOk HZ.out.1 HLT.out)
          rw [show rd_T57 G.prods i = rd_T57 G.prods (i : Int) from rfl] at HNOW HLESS HSO HLL
          obtain ⟨Ar, cr, hcr, hcalls⟩ := kjoin_calls HK6.out HZ.out.1 (by omega) h00 h01 hR6 hp5 hbl
          have HCALL := Aside0.mk hcalls
          rw [hbl]
          clear hR6 hF6 HKA HPB z1 hcalls hbl
          have HSO : Aside0 (Sound G (F'.set (rd_T57 G.prods (i : Int)).f0.toNat (joinL (rd_L7 F' (rd_T57 G.prods (i : Int)).f0) (begL G F' i) G.kinds.length))) := HSO
          clear hR6
          generalize (rowF G.kinds.length (closedL G false) F' (List.replicate G.kinds.length false) (rd_T57 G.prods (i : Int)).f1).2 = em
          generalize (rd_T57 G.prods (i : Int)).f0 = lf at h00 h01 hcr HPB6 HCALL HNOW HLESS HSZ HSO HLL
          cases hsm : someL (rd_L7 F' lf) (begL G F' i) G.kinds.length with
            | true =>
              have z0 := (blk_cell HPB6.out 0).trans (show _ = some (Value.int .i64 lf) from rfl)
              have e6 := HK6.out.cells.2
              go_wp2_with (fail)
              refine wp_region_held_drew (S := fun w' => w'.cell? ⟨p, 6, none⟩ = some (.slice (some ⟨gb, 0, none⟩) G.rules.length fc) ∧ w'.cell? ⟨q, 0, none⟩ = some (.int .i64 lf) ∧ w'.cell? ⟨gb, lf.toNat, none⟩ = some (.slice Ar G.kinds.length cr)) (by kernel_rfl) ⟨by simp only [World.cell?_drew]; exact e6, by simp only [World.cell?_drew]; exact z0, by simp only [World.cell?_drew]; exact hcr⟩ (fun hHeld => ?_)
              refine wpAnyH_take (i := 0) (oi := ?o0) (v := ?v0) ?ho0 (by kernel_rfl) (by kernel_rfl) (by kernel_rfl) ?hq0 ?hy0 (by assumption) ?rest0
              case ho0 => (simp only [List.getElem?_toArray, List.getElem?_cons_zero]; rfl)
              case hq0 => exact fun _ _ _ h => h
              case hy0 => (refine Or.inl ⟨by rfl, ?_⟩; intro w0 hSw; (try dsimp only at hSw); go_simp; try with_reducible rfl)
              try simp only [Act.put, List.setIfInBounds_toArray, List.set_cons_zero, List.set_cons_succ]
              refine wpAnyH_take (i := 1) (oi := ?o1) (v := ?v1) ?ho1 (by kernel_rfl) (by kernel_rfl) (by kernel_rfl) ?hq1 ?hy1 (by assumption) ?rest1
              case ho1 => (simp only [List.getElem?_toArray, List.getElem?_cons_succ, List.getElem?_cons_zero]; rfl)
              case hq1 => exact fun _ _ _ h => h
              case hy1 => (refine Or.inl ⟨by rfl, ?_⟩; intro w0 hSw; (try dsimp only at hSw); go_simp; try with_reducible rfl)
              try simp only [Act.put, List.setIfInBounds_toArray, List.set_cons_zero, List.set_cons_succ]
              refine wpAnyH_take (i := 2) (oi := ?o2) (v := ?v2) ?ho2 (by kernel_rfl) (by kernel_rfl) (by kernel_rfl) ?hq2 ?hy2 (by assumption) ?rest2
              case ho2 => (simp only [List.getElem?_toArray, List.getElem?_cons_succ, List.getElem?_cons_zero]; rfl)
              case hq2 => exact fun _ _ _ h => h
              case hy2 => (refine Or.inl ⟨by rfl, ?_⟩; intro w0 hSw; (try dsimp only at hSw); go_simp; try with_reducible rfl)
              try simp only [Act.put, List.setIfInBounds_toArray, List.set_cons_zero, List.set_cons_succ]
              refine wpAnyH_take (i := 3) (oi := ?o3) (v := ?v3) ?ho3 (by kernel_rfl) (by kernel_rfl) (by kernel_rfl) ?hq3 ?hy3 (by assumption) ?rest3
              case ho3 => (simp only [List.getElem?_toArray, List.getElem?_cons_succ, List.getElem?_cons_zero]; rfl)
              case hq3 => exact fun _ _ _ h => h
              case hy3 => (refine Or.inl ⟨by rfl, ?_⟩; intro w0 hSw; (try dsimp only at hSw); go_simp; try with_reducible rfl)
              try simp only [Act.put, List.setIfInBounds_toArray, List.set_cons_zero, List.set_cons_succ]
              refine wpAnyH_take (i := 4) (oi := ?o4) (v := ?v4) ?ho4 (by kernel_rfl) (by kernel_rfl) (by kernel_rfl) ?hq4 ?hy4 (by assumption) ?rest4
              case ho4 => (simp only [List.getElem?_toArray, List.getElem?_cons_succ, List.getElem?_cons_zero]; rfl)
              case hq4 => exact fun _ _ _ h => h
              case hy4 => (refine Or.inl ⟨by rfl, ?_⟩; intro w0 hSw; (try dsimp only at hSw); go_simp; try with_reducible rfl)
              try simp only [Act.put, List.setIfInBounds_toArray, List.set_cons_zero, List.set_cons_succ]
              refine wpAnyH_take (i := 5) (oi := ?o5) (v := ?v5) ?ho5 (by kernel_rfl) (by kernel_rfl) (by kernel_rfl) ?hq5 ?hy5 (by assumption) ?rest5
              case ho5 => (simp only [List.getElem?_toArray, List.getElem?_cons_succ, List.getElem?_cons_zero]; rfl)
              case hq5 => exact fun _ _ _ h => h
              case hy5 => (refine Or.inl ⟨by rfl, ?_⟩; intro w0 hSw; (try dsimp only at hSw); go_simp; try with_reducible rfl)
              try simp only [Act.put, List.setIfInBounds_toArray, List.set_cons_zero, List.set_cons_succ]
              refine wpAnyH_take (i := 6) (oi := ?o6) (v := ?v6) ?ho6 (by kernel_rfl) (by kernel_rfl) (by kernel_rfl) ?hq6 ?hy6 (by assumption) ?rest6
              case ho6 => (simp only [List.getElem?_toArray, List.getElem?_cons_succ, List.getElem?_cons_zero]; rfl)
              case hq6 => exact fun _ _ _ h => h
              case hy6 => (refine Or.inl ⟨by rfl, ?_⟩; intro w0 hSw; (try dsimp only at hSw); go_simp; try with_reducible rfl)
              try simp only [Act.put, List.setIfInBounds_toArray, List.set_cons_zero, List.set_cons_succ]
              refine wpAnyH_take (i := 7) (oi := ?o7) (v := ?v7) ?ho7 (by kernel_rfl) (by kernel_rfl) (by kernel_rfl) ?hq7 ?hy7 (by assumption) ?rest7
              case ho7 => (simp only [List.getElem?_toArray, List.getElem?_cons_succ, List.getElem?_cons_zero]; rfl)
              case hq7 => exact fun _ _ _ h => h
              case hy7 => (refine Or.inl ⟨by rfl, ?_⟩; intro w0 hSw; (try dsimp only at hSw); go_simp; try with_reducible rfl)
              try simp only [Act.put, List.setIfInBounds_toArray, List.set_cons_zero, List.set_cons_succ]
              refine wpAnyH_take (i := 8) (oi := ?o8) (v := ?v8) ?ho8 (by kernel_rfl) (by kernel_rfl) (by kernel_rfl) ?hq8 ?hy8 (by assumption) ?rest8
              case ho8 => (simp only [List.getElem?_toArray, List.getElem?_cons_succ, List.getElem?_cons_zero]; rfl)
              case hq8 => exact fun _ _ _ h => h
              case hy8 => (refine Or.inl ⟨by rfl, ?_⟩; intro w0 hSw; (try dsimp only at hSw); go_simp; try with_reducible rfl)
              try simp only [Act.put, List.setIfInBounds_toArray, List.set_cons_zero, List.set_cons_succ]
              refine wpAnyH_ready (rs := [9]) (by kernel_rfl) (by simp) ?_
              refine AllReadyH.cons (o := ?o9) ?ho9 ?hs9 AllReadyH.nil
              case ho9 => (simp only [List.getElem?_toArray, List.getElem?_cons_succ, List.getElem?_cons_zero]; rfl)
              intro K hK
              go_simp
              refine (HCALL.out _ (Fr.refl (fun _ => False) W6).drew).mono ?_
              rintro e W7 ⟨he, hK7, hc7, hF7⟩
              rw [hsm] at he
              subst he
              have HK7 := Aside0.mk hK7
              have e7 := HK7.out.cells.2
              have z7 := (blk_cell (hF7.blk (((Fr.refl (fun _ => False) W6).drew).blk HPB6.out id) (by omega)) 0).trans (show _ = some (Value.int .i64 lf) from rfl)
              clear hK7 hF7
              dsimp only
              refine hK.out _ _ ⟨e7, z7, hc7⟩ (fun hHeld => ?_)
              clear hK K
              try simp only [Act.put, List.setIfInBounds_toArray, List.set_cons_zero, List.set_cons_succ]
              refine wpAnyH_take (i := 10) (oi := ?o10) (v := ?v10) ?ho10 (by kernel_rfl) (by kernel_rfl) (by kernel_rfl) ?hq10 ?hy10 (by assumption) ?rest10
              case ho10 => (simp only [List.getElem?_toArray, List.getElem?_cons_succ, List.getElem?_cons_zero]; rfl)
              case hq10 => exact fun _ _ _ h => h
              case hy10 => (refine Or.inl ⟨by rfl, ?_⟩; intro w0 hSw; (try dsimp only at hSw); go_simp; try with_reducible rfl)
              try simp only [Act.put, List.setIfInBounds_toArray, List.set_cons_zero, List.set_cons_succ]
              refine wpAnyH_take (i := 11) (oi := ?o11) (v := undef) ?ho11 (by kernel_rfl) (by kernel_rfl) (by kernel_rfl) ?hq11 ?hy11 (by assumption) ?rest11
              case ho11 => (simp only [List.getElem?_toArray, List.getElem?_cons_succ, List.getElem?_cons_zero]; rfl)
              case hq11 => exact fun _ _ _ h => h
              case hy11 => exact Or.inr ⟨by rfl, rfl⟩
              try simp only [Act.put, List.setIfInBounds_toArray, List.set_cons_zero, List.set_cons_succ]
              refine wpAnyH_take (i := 12) (oi := ?o12) (v := ?v12) ?ho12 (by kernel_rfl) (by kernel_rfl) (by kernel_rfl) ?hq12 ?hy12 (by assumption) ?rest12
              case ho12 => (simp only [List.getElem?_toArray, List.getElem?_cons_succ, List.getElem?_cons_zero]; rfl)
              case hq12 => exact fun _ _ _ h => h
              case hy12 => (refine Or.inl ⟨by rfl, ?_⟩; intro w0 hSw; (try dsimp only at hSw); go_simp; try with_reducible rfl)
              try simp only [Act.put, List.setIfInBounds_toArray, List.set_cons_zero, List.set_cons_succ]
              refine wpAnyH_take (i := 13) (oi := ?o13) (v := ?v13) ?ho13 (by kernel_rfl) (by kernel_rfl) (by kernel_rfl) ?hq13 ?hy13 (by assumption) ?rest13
              case ho13 => (simp only [List.getElem?_toArray, List.getElem?_cons_succ, List.getElem?_cons_zero]; rfl)
              case hq13 => exact fun _ _ _ h => h
              case hy13 => (refine Or.inl ⟨by rfl, ?_⟩; intro w0 hSw; (try dsimp only at hSw); go_simp; try with_reducible rfl)
              try simp only [Act.put, List.setIfInBounds_toArray, List.set_cons_zero, List.set_cons_succ]
              refine wpAnyH_done (by kernel_rfl) ?_ _
              have HS7 := Aside0.mk (show Sized G (F'.set lf.toNat (joinL (rd_L7 F' lf) (begL G F' i) G.kinds.length)) ∧ Sound G (F'.set lf.toNat (joinL (rd_L7 F' lf) (begL G F' i) G.kinds.length)) from ⟨HSZ.out _ (by rw [joinL_length]; exact HLL.out), HSO.out⟩)
              have hless := HLESS.out hsm
              have hf7 : falses (F'.set lf.toNat (joinL (rd_L7 F' lf) (begL G F' i) G.kinds.length)) + (if true = true then 1 else 0) ≤ falses F := by
                rw [if_pos rfl]
                split at hf <;> omega
              go_wp2_with (fail)
              exact ⟨⟨i + 1, true, _, by go_num, rfl, HLT.out, hf7, HK7, HS7, ⟨fun e => absurd e (by decide)⟩⟩, by have := HLT.out; simp [intOf]; omega⟩
            | false =>
              have z0 := (blk_cell HPB6.out 0).trans (show _ = some (Value.int .i64 lf) from rfl)
              have e6 := HK6.out.cells.2
              go_wp2_with (fail)
              go_region_held3 (fun w' => w'.cell? ⟨p, 6, none⟩ = some (.slice (some ⟨gb, 0, none⟩) G.rules.length fc) ∧ w'.cell? ⟨q, 0, none⟩ = some (.int .i64 lf) ∧ w'.cell? ⟨gb, lf.toNat, none⟩ = some (.slice Ar G.kinds.length cr)) (go_keep)
                (first | (go_at_call 67; refine (HCALL.out _ (Fr.refl (fun _ => False) W6).drew).mono ?_; rintro e W7 ⟨he, hK7, hc7, hF7⟩; rw [hsm] at he; subst he; have HK7 := Aside0.mk hK7; have e7 := HK7.out.cells.2; have z7 := (blk_cell (hF7.blk (((Fr.refl (fun _ => False) W6).drew).blk HPB6.out id) (by omega)) 0).trans (show _ = some (Value.int .i64 lf) from rfl); clear hK7 hF7))
              obtain ⟨hn1, hn2⟩ := HNOW.out hsm
              rw [hn1] at HK7
              have HCL2 := Aside0.mk (show sm = false → ∀ j, j < i + 1 → ClosedAt G F' j from fun e j hj => by
                by_cases ej : j = i
                · rw [ej]; exact hn2
                · exact HCL.out e j (by omega))
              clear hn1 hn2
              go_wp2_with (fail)
              exact ⟨⟨i + 1, sm, _, by go_num, rfl, HLT.out, hf, HK7, HZ, HCL2⟩, by have := HLT.out; simp [intOf]; omega⟩
        · obtain rfl : i = G.prods.length := by omega
          go_wp2_with (fail)
          go_roundg (falses F)
          case measure => omega
          case rel => exact ⟨sm, F', rfl, hf, HKS, HZ, HCL⟩
end Go.Proofs.Ytdngobjcdajogaa.Gram
