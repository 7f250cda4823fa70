/-
A grammar compared with one of the same contents: quoinref12.Same, walked.
-/
import Derived.BigQuiet
import Derived.Test.YtdngobjcdajogaaMAV
import Derived.Test.YtdngobjcdajogaaMAW
import Derived.Test.YtdngobjcdajogaaMAR
set_option linter.unusedSimpArgs false
set_option linter.unusedVariables false
namespace Go.Proofs.Ytdngobjcdajogaa.Gram
open Go.RowKit Go.Proofs.YtdngobjcdajogaaW.PrintWords Go.Proofs.YtdngobjcdajogaaW.PrintLast Go.Proofs.YtdngobjcdajogaaW.PrintMore Go.Proofs.Ytdngobjcdajogaa.Fr Go.Proofs.Ytdngobjcdajogaa.PGramFirsts Go.Proofs.Ytdngobjcdajogaa.TextSet
structure SameOk (G : Gr) : Prop where
 k : G.kinds.length ≤ 1000000
 r : G.rules.length ≤ 1000000
 p : G.precs.length ≤ 1000000
 d : G.prods.length ≤ 1000000
 ps : ∀ i : Nat, i < G.prods.length → (rd_T57 G.prods i).f1.length ≤ 64 ∧ Sml (rd_T57 G.prods i).f3
theorem CheckOk.same {G : Gr} (h : CheckOk G) : SameOk G := by
 obtain ⟨_, _, hR2, _, _, hP⟩ := base_true h.base; have h1 := h.kinds.max; have h2 := base_precs h.base; exact ⟨by omega, by omega, by omega, by omega, fun i hi => ⟨(h.prods i hi).len, (h.prods i hi).sml⟩⟩
def emptyG : Gr := ⟨[], [], [], [], 0⟩
theorem emptyG_same : SameOk emptyG := ⟨by decide, by decide, by decide, by decide, fun i hi => by cases hi⟩
abbrev rowG (G : Gr) (A0 A1 A2 A3 : Option Addr) (c0 c1 c2 c3 : Nat) : Array Value := #[.slice A0 G.kinds.length c0, .slice A1 G.precs.length c1, .slice A2 G.rules.length c2, .slice A3 G.prods.length c3, .int .i64 G.start]
structure SmW (w W : World) (G : Gr) (A0 A1 A2 A3 B0 B1 B2 B3 : Option Addr) (c0 c1 c2 c3 d0 d1 d2 d3 p q : Nat) : Prop where
 fr : Fr (fun _ => False) w W
 b1 : W.heap[p]? = some (.cells (rowG G A0 A1 A2 A3 c0 c1 c2 c3) 26)
 b2 : W.heap[q]? = some (.cells (rowG G B0 B1 B2 B3 d0 d1 d2 d3) 26)
theorem SmW.go {w W W1 : World} {G : Gr} {A0 A1 A2 A3 B0 B1 B2 B3 : Option Addr} {c0 c1 c2 c3 d0 d1 d2 d3 p q : Nat} (h : SmW w W G A0 A1 A2 A3 B0 B1 B2 B3 c0 c1 c2 c3 d0 d1 d2 d3 p q) (hF : Fr (fun _ => False) W W1) : SmW w W1 G A0 A1 A2 A3 B0 B1 B2 B3 c0 c1 c2 c3 d0 d1 d2 d3 p q := ⟨h.fr.trans hF (fun _ _ h => h), hF.blk h.b1 id, hF.blk h.b2 id⟩
theorem SmW.cells {w W : World} {G : Gr} {A0 A1 A2 A3 B0 B1 B2 B3 : Option Addr} {c0 c1 c2 c3 d0 d1 d2 d3 p q : Nat} (h : SmW w W G A0 A1 A2 A3 B0 B1 B2 B3 c0 c1 c2 c3 d0 d1 d2 d3 p q) :
 (W.cell? ⟨p, 0, none⟩ = some (.slice A0 G.kinds.length c0) ∧ W.cell? ⟨p, 1, none⟩ = some (.slice A1 G.precs.length c1) ∧ W.cell? ⟨p, 2, none⟩ = some (.slice A2 G.rules.length c2) ∧ W.cell? ⟨p, 3, none⟩ = some (.slice A3 G.prods.length c3) ∧ W.cell? ⟨p, 4, none⟩ = some (.int .i64 G.start)) ∧
 (W.cell? ⟨q, 0, none⟩ = some (.slice B0 G.kinds.length d0) ∧ W.cell? ⟨q, 1, none⟩ = some (.slice B1 G.precs.length d1) ∧ W.cell? ⟨q, 2, none⟩ = some (.slice B2 G.rules.length d2) ∧ W.cell? ⟨q, 3, none⟩ = some (.slice B3 G.prods.length d3) ∧ W.cell? ⟨q, 4, none⟩ = some (.int .i64 G.start)) :=
 ⟨⟨(blk_cell h.b1 0).trans rfl, (blk_cell h.b1 1).trans rfl, (blk_cell h.b1 2).trans rfl, (blk_cell h.b1 3).trans rfl, (blk_cell h.b1 4).trans rfl⟩, (blk_cell h.b2 0).trans rfl, (blk_cell h.b2 1).trans rfl, (blk_cell h.b2 2).trans rfl, (blk_cell h.b2 3).trans rfl, (blk_cell h.b2 4).trans rfl⟩
structure PrW (Wk W : World) (rA rB : Array Value) (a b : Option Nat) (x y : Bool) : Prop where
 fr : Fr (fun _ => False) Wk W
 la : ∀ k, a = some k → Wk.heap.size ≤ k ∧ W.heap[k]? = some (.cells (if x then rA else z7) 57 (0, 0))
 lb : ∀ k, b = some k → Wk.heap.size ≤ k ∧ W.heap[k]? = some (.cells (if y then rB else z7) 57 (0, 0))
 ne : ∀ k, a = some k → b ≠ some k
theorem PrW.start (Wk : World) (rA rB : Array Value) : PrW Wk Wk.drew rA rB none none false false := ⟨(Fr.refl _ _).drew, (fun _ h => by cases h), (fun _ h => by cases h), (fun _ h => by cases h)⟩
theorem PrW.allocA {Wk W : World} {rA rB : Array Value} {b : Option Nat} {y : Bool} (h : PrW Wk W rA rB none b false y) : PrW Wk (W.alloc (.cells z7 57)) rA rB (some W.heap.size) b false y :=
 ⟨h.fr.alloc _, (fun k e => by injection e with e; subst e; exact ⟨h.fr.size, blk_new W _⟩), fun k e => ⟨(h.lb k e).1, ((Fr.refl (fun _ => False) W).alloc _).blk (h.lb k e).2 id⟩, fun k e e2 => by
  injection e with e
  subst e; have := blk_lt (h.lb _ e2).2; omega⟩
theorem PrW.allocB {Wk W : World} {rA rB : Array Value} {a : Option Nat} {x : Bool} (h : PrW Wk W rA rB a none x false) : PrW Wk (W.alloc (.cells z7 57)) rA rB a (some W.heap.size) x false :=
 ⟨h.fr.alloc _, fun k e => ⟨(h.la k e).1, ((Fr.refl (fun _ => False) W).alloc _).blk (h.la k e).2 id⟩, (fun k e => by injection e with e; subst e; exact ⟨h.fr.size, blk_new W _⟩), fun k e e2 => by
  injection e2 with e2
  subst e2; have := blk_lt (h.la _ e).2; omega⟩
theorem PrW.storeA {Wk W : World} {rA rB : Array Value} {k : Nat} {b : Option Nat} {y : Bool} (h : PrW Wk W rA rB (some k) b false y) : PrW Wk (W.setRow k rA) rA rB (some k) b true y :=
 ⟨fr_row h.fr _ (fun hl => by have := (h.la k rfl).1; omega), (fun j e => by injection e with e; subst e; exact ⟨(h.la _ rfl).1, setRow_heap _ _ _ _ _ _ (h.la _ rfl).2⟩), fun j e => ⟨(h.lb j e).1, (setRow_other W k j _ (fun e2 => h.ne k rfl (by rw [← e2]; exact e))).trans (h.lb j e).2⟩, h.ne⟩
theorem PrW.storeB {Wk W : World} {rA rB : Array Value} {k : Nat} {a : Option Nat} {x : Bool} (h : PrW Wk W rA rB a (some k) x false) : PrW Wk (W.setRow k rB) rA rB a (some k) x true :=
 ⟨fr_row h.fr _ (fun hl => by have := (h.lb k rfl).1; omega), fun j e => ⟨(h.la j e).1, (setRow_other W k j _ (fun e2 => h.ne j e (by rw [e2]))).trans (h.la j e).2⟩, (fun j e => by injection e with e; subst e; exact ⟨(h.lb _ rfl).1, setRow_heap _ _ _ _ _ _ (h.lb _ rfl).2⟩), h.ne⟩
def PrPost (Wk : World) (rA rB : Array Value) (s7 s8 : Value) (W : World) : Prop := ∃ a b, s7 = .pointer (some ⟨a, 0, none⟩) ∧ s8 = .pointer (some ⟨b, 0, none⟩) ∧ PrW Wk W rA rB (some a) (some b) true true
set_option maxHeartbeats 8000000 in
set_option maxRecDepth 100000 in
theorem sameG_calls (w : World) (G : Gr) (A0 A1 A2 A3 B0 B1 B2 B3 : Option Addr) (c0 c1 c2 c3 d0 d1 d2 d3 : Nat) (hA : GAt w G A0 A1 A2 A3 c0 c1 c2 c3) (hB : GAt w G B0 B1 B2 B3 d0 d1 d2 d3) (hs : SameOk G) :
 Calls Try.prog 14 #[.agg (rowG G A0 A1 A2 A3 c0 c1 c2 c3), .agg (rowG G B0 B1 B2 B3 d0 d1 d2 d3)] w fun e w' => e = .returned (.bool true) ∧ Fr (fun _ => False) w w' := by
 have hu := Try.underlying26; have hu2 := Try.underlying57; have hu3 := Try.underlying73; have HA := Aside0.mk hA; have HB := Aside0.mk hB; have HO := Aside0.mk hs; have HW := Aside0.mk (show SmW w ((w.alloc (.cells (rowG G A0 A1 A2 A3 c0 c1 c2 c3) 26)).alloc (.cells (rowG G B0 B1 B2 B3 d0 d1 d2 d3) 26)) G A0 A1 A2 A3 B0 B1 B2 B3 c0 c1 c2 c3 d0 d1 d2 d3 w.heap.size (w.heap.size + 1) from
  ⟨((Fr.refl _ w).alloc _).alloc _, ((Fr.refl (fun _ => False) _).alloc _).blk (blk_new w _) id, by have := blk_new (w.alloc (.cells (rowG G A0 A1 A2 A3 c0 c1 c2 c3) 26)) (.cells (rowG G B0 B1 B2 B3 d0 d1 d2 d3) 26); rwa [World.size_alloc] at this⟩)
 have hk := hs.k; have hr := hs.r; have hp := hs.p; have hd := hs.d; clear hA hB hs; go_enter Try.func14, Try.ntmps14
 go_upto_region 1 with fail
 generalize (w.alloc (.cells (rowG G A0 A1 A2 A3 c0 c1 c2 c3) 26)).alloc (.cells (rowG G B0 B1 B2 B3 d0 d1 d2 d3) 26) = W0 at HW ⊢; generalize w.heap.size + 1 = q at HW ⊢; generalize w.heap.size = p at HW ⊢; obtain ⟨⟨e0, e1, e2, e3, e4⟩, f0, f1, f2, f3, f4⟩ := HW.out.cells; go_wp2_with (fail)
 refine (samets_calls W0 A0 B0 _ _ c0 d0 G.kinds rfl rfl (HA.out.go HW.out.fr).kinds HA.out.l0 (HB.out.go HW.out.fr).kinds HB.out.l0 hk).mono ?_; rintro e W1 ⟨rfl, hF⟩; have HW1 := Aside0.mk (HW.out.go hF); clear HW hF e0 e1 e2 e3 e4 f0 f1 f2 f3 f4; obtain ⟨⟨e0, e1, e2, e3, e4⟩, f0, f1, f2, f3, f4⟩ := HW1.out.cells; go_wp2_with (fail)
 refine (samets_calls W1 A2 B2 _ _ c2 d2 G.rules rfl rfl (HA.out.go HW1.out.fr).rules HA.out.l2 (HB.out.go HW1.out.fr).rules HB.out.l2 hr).mono ?_; rintro e W2 ⟨rfl, hF⟩; have HW2 := Aside0.mk (HW1.out.go hF); clear HW1 hF e0 e1 e2 e3 e4 f0 f1 f2 f3 f4; obtain ⟨⟨e0, e1, e2, e3, e4⟩, f0, f1, f2, f3, f4⟩ := HW2.out.cells; go_wp2_with (fail)
 go_loopw [5] (fun a W => ∃ (i : Nat), a = .int .i64 i ∧ i ≤ G.precs.length ∧ Aside0 (SmW w W G A0 A1 A2 A3 B0 B1 B2 B3 c0 c1 c2 c3 d0 d1 d2 d3 p q)) (fun a _ => G.precs.length - (intOf a).toNat)
 case atStart => exact ⟨0, rfl, Nat.zero_le _, HW2⟩
 case round =>
  clear HW2 e0 e1 e2 e3 e4 f0 f1 f2 f3 f4; obtain ⟨i, rfl, hi, HW⟩ := hrel; obtain ⟨⟨e0, e1, e2, e3, e4⟩, f0, f1, f2, f3, f4⟩ := HW.out.cells; by_cases hlt : i < G.precs.length
  · obtain ⟨ad, rfl, hx0, hx1⟩ := at_T73 (HA.out.go HW.out.fr).precs (i : Int) (by omega) (by omega)
    obtain ⟨bd, rfl, hy0, hy1⟩ := at_T73 (HB.out.go HW.out.fr).precs (i : Int) (by omega) (by omega); simp only [Int.toNat_natCast] at hx0 hx1 hy0 hy1; have HLT := Aside0.mk hlt; generalize rd_T73 G.precs i = x at hx0 hx1 hy0 hy1; go_wp2_with (fail)
    go_quiet (fail)
    have HW3 := Aside0.mk (HW.out.go ((Fr.refl (fun _ => False) wr).drewN nq)); go_wp2_with (fail)
    exact ⟨⟨i + 1, by go_num, HLT.out, HW3⟩, by have := HLT.out; simp [intOf]; omega⟩
  · obtain rfl : i = G.precs.length := by omega
    go_wp2_with (fail)
    go_loopw [6] (fun a W => ∃ (i : Nat), a = .int .i64 i ∧ i ≤ G.prods.length ∧ Aside0 (SmW w W G A0 A1 A2 A3 B0 B1 B2 B3 c0 c1 c2 c3 d0 d1 d2 d3 p q)) (fun a _ => G.prods.length - (intOf a).toNat)
    case atStart => exact ⟨0, rfl, Nat.zero_le _, HW⟩
    case round =>
     clear HW e0 e1 e2 e3 e4 f0 f1 f2 f3 f4; obtain ⟨i, rfl, hi, HW⟩ := hrel; obtain ⟨⟨e0, e1, e2, e3, e4⟩, f0, f1, f2, f3, f4⟩ := HW.out.cells; by_cases hlt : i < G.prods.length
     · obtain ⟨ad, X1, x1, X6, x6, rfl, hx0, hx1, hx2, hx3, hx4, hx5, hx6, hxl1, hxC1, hxl6, hxC6⟩ := at_T57 (HA.out.go HW.out.fr).prods (i : Int) (by omega) (by omega)
       obtain ⟨bd, Y1, y1, Y6, y6, rfl, hy0, hy1, hy2, hy3, hy4, hy5, hy6, hyl1, hyC1, hyl6, hyC6⟩ := at_T57 (HB.out.go HW.out.fr).prods (i : Int) (by omega) (by omega); simp only [Int.toNat_natCast] at hx0 hx1 hx2 hx3 hx4 hx5 hx6 hy0 hy1 hy2 hy3 hy4 hy5 hy6; have HLT := Aside0.mk hlt; obtain ⟨hp1, hp2⟩ := HO.out.ps i hlt; have HSM := Aside0.mk hp2; have HP1 := Aside0.mk (show (rd_T57 G.prods (i : Int)).f1.length ≤ 1000000 by omega); have HXC := Aside0.mk hxC1; have HXD := Aside0.mk hxC6; have HYC := Aside0.mk hyC1; have HYD := Aside0.mk hyC6; have HLL := Aside0.mk (And.intro hxl1 (And.intro hxl6 (And.intro hyl1 hyl6))); clear hxC1 hxC6 hyC1 hyC6 hp1 hp2 hxl1 hxl6 hyl1 hyl6; generalize rd_T57 G.prods i = x at *; go_upto_region 11 with fail
       go_cut [7, 8] from 73 to 82 (fun s7 s8 wx => PrPost wr #[.int .i64 x.f0, .slice X1 x.f1.length x1, .int .i64 x.f2, .int .i64 x.f3.f0, .int .i64 x.f3.f1, .string x.f3.f2, .slice X6 x.f3.f3.length x6] #[.int .i64 x.f0, .slice Y1 x.f1.length y1, .int .i64 x.f2, .int .i64 x.f3.f0, .int .i64 x.f3.f1, .string x.f3.f2, .slice Y6 x.f3.f3.length y6] s7 s8 wx)
       case first =>
        have HSF := Aside0.mk (show ∀ W', Fr (fun _ => False) wr W' → (fun w' => (w'.cell? ⟨p, 3, none⟩ = some (.slice (some ad) G.prods.length c3) ∧ w'.cell? ⟨q, 3, none⟩ = some (.slice (some bd) G.prods.length d3)) ∧ w'.cell? (ad.add (i * 7)) = some (.int .i64 x.f0) ∧ w'.cell? ⟨(ad.add (i * 7)).block, (ad.add (i * 7)).off + 1, none⟩ = some (.slice X1 x.f1.length x1) ∧ w'.cell? ⟨(ad.add (i * 7)).block, (ad.add (i * 7)).off + 2, none⟩ = some (.int .i64 x.f2) ∧ w'.cell? ⟨(ad.add (i * 7)).block, (ad.add (i * 7)).off + 3, none⟩ = some (.int .i64 x.f3.f0) ∧ w'.cell? ⟨(ad.add (i * 7)).block, (ad.add (i * 7)).off + 4, none⟩ = some (.int .i64 x.f3.f1) ∧ w'.cell? ⟨(ad.add (i * 7)).block, (ad.add (i * 7)).off + 5, none⟩ = some (.string x.f3.f2) ∧ w'.cell? ⟨(ad.add (i * 7)).block, (ad.add (i * 7)).off + 6, none⟩ = some (.slice X6 x.f3.f3.length x6) ∧ w'.cell? (bd.add (i * 7)) = some (.int .i64 x.f0) ∧ w'.cell? ⟨(bd.add (i * 7)).block, (bd.add (i * 7)).off + 1, none⟩ = some (.slice Y1 x.f1.length y1) ∧ w'.cell? ⟨(bd.add (i * 7)).block, (bd.add (i * 7)).off + 2, none⟩ = some (.int .i64 x.f2) ∧ w'.cell? ⟨(bd.add (i * 7)).block, (bd.add (i * 7)).off + 3, none⟩ = some (.int .i64 x.f3.f0) ∧ w'.cell? ⟨(bd.add (i * 7)).block, (bd.add (i * 7)).off + 4, none⟩ = some (.int .i64 x.f3.f1) ∧ w'.cell? ⟨(bd.add (i * 7)).block, (bd.add (i * 7)).off + 5, none⟩ = some (.string x.f3.f2) ∧ w'.cell? ⟨(bd.add (i * 7)).block, (bd.add (i * 7)).off + 6, none⟩ = some (.slice Y6 x.f3.f3.length y6)) W' from fun W' hF => ⟨⟨hF.cell e3 id, hF.cell f3 id⟩, hF.cell hx0 id, hF.cell hx1 id, hF.cell hx2 id, hF.cell hx3 id, hF.cell hx4 id, hF.cell hx5 id, hF.cell hx6 id, hF.cell hy0 id, hF.cell hy1 id, hF.cell hy2 id, hF.cell hy3 id, hF.cell hy4 id, hF.cell hy5 id, hF.cell hy6 id⟩); have HQ0 := Aside0.mk (PrW.start wr #[.int .i64 x.f0, .slice X1 x.f1.length x1, .int .i64 x.f2, .int .i64 x.f3.f0, .int .i64 x.f3.f1, .string x.f3.f2, .slice X6 x.f3.f3.length x6] #[.int .i64 x.f0, .slice Y1 x.f1.length y1, .int .i64 x.f2, .int .i64 x.f3.f0, .int .i64 x.f3.f1, .string x.f3.f2, .slice Y6 x.f3.f3.length y6]); clear e0 e1 e2 e3 e4 f0 f1 f2 f3 f4 hx0 hx1 hx2 hx3 hx4 hx5 hx6 hy0 hy1 hy2 hy3 hy4 hy5 hy6; refine wp_region_last_drew (S := fun w' => (w'.cell? ⟨p, 3, none⟩ = some (.slice (some ad) G.prods.length c3) ∧ w'.cell? ⟨q, 3, none⟩ = some (.slice (some bd) G.prods.length d3)) ∧ w'.cell? (ad.add (i * 7)) = some (.int .i64 x.f0) ∧ w'.cell? ⟨(ad.add (i * 7)).block, (ad.add (i * 7)).off + 1, none⟩ = some (.slice X1 x.f1.length x1) ∧ w'.cell? ⟨(ad.add (i * 7)).block, (ad.add (i * 7)).off + 2, none⟩ = some (.int .i64 x.f2) ∧ w'.cell? ⟨(ad.add (i * 7)).block, (ad.add (i * 7)).off + 3, none⟩ = some (.int .i64 x.f3.f0) ∧ w'.cell? ⟨(ad.add (i * 7)).block, (ad.add (i * 7)).off + 4, none⟩ = some (.int .i64 x.f3.f1) ∧ w'.cell? ⟨(ad.add (i * 7)).block, (ad.add (i * 7)).off + 5, none⟩ = some (.string x.f3.f2) ∧ w'.cell? ⟨(ad.add (i * 7)).block, (ad.add (i * 7)).off + 6, none⟩ = some (.slice X6 x.f3.f3.length x6) ∧ w'.cell? (bd.add (i * 7)) = some (.int .i64 x.f0) ∧ w'.cell? ⟨(bd.add (i * 7)).block, (bd.add (i * 7)).off + 1, none⟩ = some (.slice Y1 x.f1.length y1) ∧ w'.cell? ⟨(bd.add (i * 7)).block, (bd.add (i * 7)).off + 2, none⟩ = some (.int .i64 x.f2) ∧ w'.cell? ⟨(bd.add (i * 7)).block, (bd.add (i * 7)).off + 3, none⟩ = some (.int .i64 x.f3.f0) ∧ w'.cell? ⟨(bd.add (i * 7)).block, (bd.add (i * 7)).off + 4, none⟩ = some (.int .i64 x.f3.f1) ∧ w'.cell? ⟨(bd.add (i * 7)).block, (bd.add (i * 7)).off + 5, none⟩ = some (.string x.f3.f2) ∧ w'.cell? ⟨(bd.add (i * 7)).block, (bd.add (i * 7)).off + 6, none⟩ = some (.slice Y6 x.f3.f3.length y6)) (ds := []) (by kernel_rfl) (HSF.out _ HQ0.out.fr) (fun hHeld => ?_); generalize wr.drew = Wd at HQ0 hHeld ⊢; refine tk 0 ?_; refine tk 1 ?_; refine tk 2 ?_; refine tk 3 ?_; refine tk 4 ?_; refine tk 5 ?_; refine tk 6 ?_; refine tk 7 ?_; refine tk 8 ?_; refine tk 9 ?_; refine on2 10 11 ?p1 ?q1
        case p1 =>
         intro K hK; go_simp
         have HQV1 := Aside0.mk HQ0.out.allocA; refine hK.out _ _ (HSF.out _ HQV1.out.fr) (fun hHeld => ?_); clear hK K; try simp only [Act.put, List.setIfInBounds_toArray, List.set_cons_zero, List.set_cons_succ]
         generalize Wd.alloc (.cells z7 57) = V1 at HQV1 hHeld ⊢; generalize Wd.heap.size = qA at HQV1 ⊢; clear HQ0; refine on 11 ?_; intro K hK; go_simp
         have HQV2 := Aside0.mk HQV1.out.allocB; refine hK.out _ _ (HSF.out _ HQV2.out.fr) (fun hHeld => ?_); clear hK K; try simp only [Act.put, List.setIfInBounds_toArray, List.set_cons_zero, List.set_cons_succ]
         generalize V1.alloc (.cells z7 57) = V2 at HQV2 hHeld ⊢; generalize V1.heap.size = qB at HQV2 ⊢; clear HQV1; refine on 12 ?_; intro K hK; rw [if_pos (by rfl)]; refine wp_store_row 57 (.tmp 7) (.tmp 77) rfl _ _ rfl rfl 57 z7 (HQV2.out.la _ rfl).2 info7P rfl (cells7 _ _ _ _ _ _ _ _ _ _ _) ?_; have HQV3 := Aside0.mk HQV2.out.storeA; refine hK.out _ _ (HSF.out _ HQV3.out.fr) (fun hHeld => ?_); clear hK K; try simp only [Act.put, List.setIfInBounds_toArray, List.set_cons_zero, List.set_cons_succ]
         clear HQV2; refine on 13 ?_; intro K hK; rw [if_pos (by rfl)]; refine wp_store_row 57 (.tmp 8) (.tmp 82) rfl _ _ rfl rfl 57 z7 (HQV3.out.lb _ rfl).2 info7P rfl (cells7 _ _ _ _ _ _ _ _ _ _ _) ?_; have HQV4 := Aside0.mk HQV3.out.storeB; refine hK.out _ _ (HSF.out _ HQV4.out.fr) (fun hHeld => ?_); clear hK K; try simp only [Act.put, List.setIfInBounds_toArray, List.set_cons_zero, List.set_cons_succ]
         clear HQV3; refine dn ?_; go_wp2_with (fail)
         go_meet
         exact ⟨_, _, rfl, rfl, HQV4.out⟩
        case q1 =>
         intro K hK; go_simp
         have HQV1 := Aside0.mk HQ0.out.allocB; refine hK.out _ _ (HSF.out _ HQV1.out.fr) (fun hHeld => ?_); clear hK K; try simp only [Act.put, List.setIfInBounds_toArray, List.set_cons_zero, List.set_cons_succ]
         generalize Wd.alloc (.cells z7 57) = V1 at HQV1 hHeld ⊢; generalize Wd.heap.size = qB at HQV1 ⊢; clear HQ0; refine on 10 ?_; intro K hK; go_simp
         have HQV2 := Aside0.mk HQV1.out.allocA; refine hK.out _ _ (HSF.out _ HQV2.out.fr) (fun hHeld => ?_); clear hK K; try simp only [Act.put, List.setIfInBounds_toArray, List.set_cons_zero, List.set_cons_succ]
         generalize V1.alloc (.cells z7 57) = V2 at HQV2 hHeld ⊢; generalize V1.heap.size = qA at HQV2 ⊢; clear HQV1; refine on 12 ?_; intro K hK; rw [if_pos (by rfl)]; refine wp_store_row 57 (.tmp 7) (.tmp 77) rfl _ _ rfl rfl 57 z7 (HQV2.out.la _ rfl).2 info7P rfl (cells7 _ _ _ _ _ _ _ _ _ _ _) ?_; have HQV3 := Aside0.mk HQV2.out.storeA; refine hK.out _ _ (HSF.out _ HQV3.out.fr) (fun hHeld => ?_); clear hK K; try simp only [Act.put, List.setIfInBounds_toArray, List.set_cons_zero, List.set_cons_succ]
         clear HQV2; refine on 13 ?_; intro K hK; rw [if_pos (by rfl)]; refine wp_store_row 57 (.tmp 8) (.tmp 82) rfl _ _ rfl rfl 57 z7 (HQV3.out.lb _ rfl).2 info7P rfl (cells7 _ _ _ _ _ _ _ _ _ _ _) ?_; have HQV4 := Aside0.mk HQV3.out.storeB; refine hK.out _ _ (HSF.out _ HQV4.out.fr) (fun hHeld => ?_); clear hK K; try simp only [Act.put, List.setIfInBounds_toArray, List.set_cons_zero, List.set_cons_succ]
         clear HQV3; refine dn ?_; go_wp2_with (fail)
         go_meet
         exact ⟨_, _, rfl, rfl, HQV4.out⟩
       case rest =>
        obtain ⟨qa, qb, rfl, rfl, hQ⟩ := hcut; have HF := Aside0.mk hQ.fr; have HQA := Aside0.mk ((hQ.la _ rfl).2.trans (show _ = some (Obj.cells #[.int .i64 x.f0, .slice X1 x.f1.length x1, .int .i64 x.f2, .int .i64 x.f3.f0, .int .i64 x.f3.f1, .string x.f3.f2, .slice X6 x.f3.f3.length x6] 57 (0, 0)) from rfl)); have HQB := Aside0.mk ((hQ.lb _ rfl).2.trans (show _ = some (Obj.cells #[.int .i64 x.f0, .slice Y1 x.f1.length y1, .int .i64 x.f2, .int .i64 x.f3.f0, .int .i64 x.f3.f1, .string x.f3.f2, .slice Y6 x.f3.f3.length y6] 57 (0, 0)) from rfl)); clear hQ e0 e1 e2 e3 e4 f0 f1 f2 f3 f4 hx0 hx1 hx2 hx3 hx4 hx5 hx6 hy0 hy1 hy2 hy3 hy4 hy5 hy6; have HXD2 := Aside0.mk (Kd.C_below HXD.out HF.out.to_below); have HYD2 := Aside0.mk (Kd.C_below HYD.out HF.out.to_below); have HXC2 := Aside0.mk (Kd.C_below HXC.out HF.out.to_below); have HYC2 := Aside0.mk (Kd.C_below HYC.out HF.out.to_below); have HWC := Aside0.mk (HW.out.go HF.out); clear HF HXD HYD HXC HYC HW; have hxx : ∀ (r : Array Value) (k : Nat), wc.heap[k]? = some (.cells r 57 (0, 0)) → ∀ j v, r[j]? = some v → wc.cell? ⟨k, j, none⟩ = some v := fun r k hk j v hv => (blk_cell hk j).trans hv
        have a0 := hxx _ _ HQA.out 0 _ rfl; have a1 := hxx _ _ HQA.out 1 _ rfl; have a2 := hxx _ _ HQA.out 2 _ rfl; have b0 := hxx _ _ HQB.out 0 _ rfl; have b1 := hxx _ _ HQB.out 1 _ rfl; have b2 := hxx _ _ HQB.out 2 _ rfl; clear hxx; go_wp2_with (fail)
        refine (same_calls wc X1 Y1 _ _ x1 y1 x.f1 HXC2.out HYC2.out rfl rfl HP1.out).mono ?_; rintro e W3 ⟨rfl, hF⟩; have HWD := Aside0.mk (HWC.out.go hF); have HQA3 := Aside0.mk (hF.blk HQA.out id); have HQB3 := Aside0.mk (hF.blk HQB.out id); have HXD3 := Aside0.mk (Kd.C_below HXD2.out hF.to_below); have HYD3 := Aside0.mk (Kd.C_below HYD2.out hF.to_below); clear hF HWC HQA HQB HXD2 HYD2 HXC2 HYC2 a0 a1 a2 b0 b1 b2; have hxx : ∀ (r : Array Value) (k : Nat), W3.heap[k]? = some (.cells r 57 (0, 0)) → ∀ j v, r[j]? = some v → W3.cell? ⟨k, j, none⟩ = some v := fun r k hk j v hv => (blk_cell hk j).trans hv
        have a3 := hxx _ _ HQA3.out 3 _ rfl; have a4 := hxx _ _ HQA3.out 4 _ rfl; have a5 := hxx _ _ HQA3.out 5 _ rfl; have a6 := hxx _ _ HQA3.out 6 _ rfl; have b3 := hxx _ _ HQB3.out 3 _ rfl; have b4 := hxx _ _ HQB3.out 4 _ rfl; have b5 := hxx _ _ HQB3.out 5 _ rfl; have b6 := hxx _ _ HQB3.out 6 _ rfl; clear hxx; go_wp2_with (fail)
        refine (sameact_calls W3 x.f3 X6 Y6 x6 y6 HXD3.out HLL.out.2.1 HYD3.out HLL.out.2.2.2 HSM.out).mono ?_; rintro e W4 ⟨rfl, hF⟩; have HWE := Aside0.mk (HWD.out.go hF); clear hF HWD HQA3 HQB3 HXD3 HYD3 a3 a4 a5 a6 b3 b4 b5 b6; go_wp2_with (fail)
        exact ⟨⟨i + 1, by go_num, HLT.out, HWE⟩, by have := HLT.out; simp [intOf]; omega⟩
     · obtain rfl : i = G.prods.length := by omega
       have HWE := Aside0.mk HW.out.fr; go_wp2_with (fail)
       go_ret
       exact ⟨rfl, HWE.out⟩
theorem trim_mem {G : Gr} {s : ByteArray} (h : s ∈ (trimG G).rules) : s ∈ G.rules := by
 obtain ⟨a, ha, rfl⟩ := List.mem_map.1 (show s ∈ ((List.range G.rules.length).filter (kpT G)).map (fun a => rdS G.rules a) from h); have := List.mem_range.1 (List.mem_filter.1 ha).1; simp [rdS, rdOf, List.getD_eq_getElem?_getD, this]
theorem trim_at {w W : World} {G : Gr} {A0 A1 A2 A3 : Option Addr} {c0 c1 c2 c3 : Nat} (h : GAt w G A0 A1 A2 A3 c0 c1 c2 c3) {B : Nat} {KA PA RA DA : Option Addr} {kc pc rc dc : Nat} (hK : Kd.string.R 9 W B (fun _ => True) (.slice KA (trimG G).kinds.length kc) (trimG G).kinds) (hP : k73.R 73 W B (fun _ => True) (.slice PA (trimG G).precs.length pc) (trimG G).precs)
 (hR : Kd.string.R 9 W B (fun _ => True) (.slice RA (trimG G).rules.length rc) (trimG G).rules) (hD : k57.R 57 W B (fun _ => True) (.slice DA (trimG G).prods.length dc) (trimG G).prods) : GAt W (trimG G) KA PA RA DA kc pc rc dc :=
 ⟨(Kd.R_reads' hK).2.2, (Kd.R_reads' hP).2.2, (Kd.R_reads' hR).2.2, (Kd.R_reads' hD).2.2, (Kd.R_reads' hK).2.1, (Kd.R_reads' hP).2.1, (Kd.R_reads' hR).2.1, (Kd.R_reads' hD).2.1, h.ok, fun s hs => h.ok2 s (trim_mem hs)⟩
theorem boxG {W : World} {p : Nat} {G : Gr} {A0 A1 A2 A3 : Option Addr} {c0 c1 c2 c3 : Nat} (h : W.heap[p]? = some (.cells (rowG G A0 A1 A2 A3 c0 c1 c2 c3) 26)) :
 W.cell? ⟨p, 0, none⟩ = some (.slice A0 G.kinds.length c0) ∧ W.cell? ⟨p, 1, none⟩ = some (.slice A1 G.precs.length c1) ∧ W.cell? ⟨p, 2, none⟩ = some (.slice A2 G.rules.length c2) ∧ W.cell? ⟨p, 3, none⟩ = some (.slice A3 G.prods.length c3) ∧ W.cell? ⟨p, 4, none⟩ = some (.int .i64 G.start) :=
 ⟨(blk_cell h 0).trans rfl, (blk_cell h 1).trans rfl, (blk_cell h 2).trans rfl, (blk_cell h 3).trans rfl, (blk_cell h 4).trans rfl⟩
end Go.Proofs.Ytdngobjcdajogaa.Gram
