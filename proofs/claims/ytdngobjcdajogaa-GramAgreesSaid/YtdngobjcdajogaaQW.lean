/-
What is told of a rule in several ways agrees: quoinlaw12.GramAgrees, walked.
-/
import Derived.Test.YtdngobjcdajogaaQV
namespace Go.Proofs.Ytdngobjcdajogaa.Gram
open Go.RowKit Go.Proofs.YtdngobjcdajogaaW.PrintWords Go.Proofs.YtdngobjcdajogaaW.PrintLast Go.Proofs.YtdngobjcdajogaaW.PrintMore Go.Proofs.Ytdngobjcdajogaa.Fr Go.Proofs.Ytdngobjcdajogaa.PGramFirsts Go.Proofs.Ytdngobjcdajogaa.TextSet

/-- What stands from the look on: the grammar's box, the report's, and what the report's rows hold. -/
structure AgW (w W : World) (G : Gr) (A0 A1 A2 A3 NA PA RA CA : Option Addr) (c0 c1 c2 c3 b q nc pc rc cc : Nat) (FV WV : Value) : Prop where
  fr : Fr (fun _ => False) w W
  box : W.heap[b]? = some (.cells #[.slice A0 G.kinds.length c0, .slice A1 G.precs.length c1, .slice A2 G.rules.length c2, .slice A3 G.prods.length c3, .int .i64 G.start] 26)
  rep : W.heap[q]? = some (.cells #[.slice NA G.rules.length nc, .slice PA G.rules.length pc, .slice RA G.rules.length rc, .slice CA G.rules.length cc, FV, WV] 39 (0, 0))
  nul : kB.R 4 W w.heap.size (fun _ => True) (.slice NA G.rules.length nc) (closedL G false)
  pro : kB.R 4 W w.heap.size (fun _ => True) (.slice PA G.rules.length pc) (closedL G true)
  fst : Kd.S kN 27 W w.heap.size (fun _ => True) FV ((firstL G).map (listI 0))
theorem AgW.go {w W W1 : World} {G : Gr} {A0 A1 A2 A3 NA PA RA CA : Option Addr} {c0 c1 c2 c3 b q nc pc rc cc : Nat} {FV WV : Value} (h : AgW w W G A0 A1 A2 A3 NA PA RA CA c0 c1 c2 c3 b q nc pc rc cc FV WV) (hF : Fr (fun _ => False) W W1) : AgW w W1 G A0 A1 A2 A3 NA PA RA CA c0 c1 c2 c3 b q nc pc rc cc FV WV :=
  ⟨h.fr.trans hF (fun _ _ h => h), hF.blk h.box id, hF.blk h.rep id, Kd.R_below h.nul hF.to_below, Kd.R_below h.pro hF.to_below, Kd.S_below h.fst hF.to_below⟩
theorem AgW.cells {w W : World} {G : Gr} {A0 A1 A2 A3 NA PA RA CA : Option Addr} {c0 c1 c2 c3 b q nc pc rc cc : Nat} {FV WV : Value} (h : AgW w W G A0 A1 A2 A3 NA PA RA CA c0 c1 c2 c3 b q nc pc rc cc FV WV) :
    W.cell? ⟨b, 0, none⟩ = some (.slice A0 G.kinds.length c0) ∧ W.cell? ⟨b, 1, none⟩ = some (.slice A1 G.precs.length c1) ∧ W.cell? ⟨b, 2, none⟩ = some (.slice A2 G.rules.length c2) ∧ W.cell? ⟨b, 3, none⟩ = some (.slice A3 G.prods.length c3) ∧ W.cell? ⟨b, 4, none⟩ = some (.int .i64 G.start) ∧
    W.cell? ⟨q, 0, none⟩ = some (.slice NA G.rules.length nc) ∧ W.cell? ⟨q, 1, none⟩ = some (.slice PA G.rules.length pc) ∧ W.cell? ⟨q, 4, none⟩ = some FV :=
  ⟨(blk_cell h.box 0).trans rfl, (blk_cell h.box 1).trans rfl, (blk_cell h.box 2).trans rfl, (blk_cell h.box 3).trans rfl, (blk_cell h.box 4).trans rfl, (blk_cell h.rep 0).trans rfl, (blk_cell h.rep 1).trans rfl, (blk_cell h.rep 4).trans rfl⟩
set_option maxHeartbeats 8000000 in
set_option maxRecDepth 100000 in
theorem agrees_calls (w : World) (G : Gr) (A0 A1 A2 A3 : Option Addr) (c0 c1 c2 c3 : Nat) (h : GAt w G A0 A1 A2 A3 c0 c1 c2 c3) (rule : Int) :
    Calls Try.prog 6 #[.agg #[.slice A0 G.kinds.length c0, .slice A1 G.precs.length c1, .slice A2 G.rules.length c2, .slice A3 G.prods.length c3, .int .i64 G.start], .int .i64 rule] w fun e w' => e = .returned (.bool true) ∧ Fr (fun _ => False) w w' := by
  have hu := Try.underlying26
  have hu3 := Try.underlying39
  have HG := Aside0.mk h
  have HB0 := Aside0.mk (blk_new w (.cells #[.slice A0 G.kinds.length c0, .slice A1 G.precs.length c1, .slice A2 G.rules.length c2, .slice A3 G.prods.length c3, .int .i64 G.start] 26))
  have HF0 := Aside0.mk ((Fr.refl (fun _ => False) w).alloc (.cells #[.slice A0 G.kinds.length c0, .slice A1 G.precs.length c1, .slice A2 G.rules.length c2, .slice A3 G.prods.length c3, .int .i64 G.start] 26))
  clear h
  go_enter Try.func6, Try.ntmps6
  go_upto_region 1 with fail
  generalize w.alloc (.cells #[.slice A0 G.kinds.length c0, .slice A1 G.precs.length c1, .slice A2 G.rules.length c2, .slice A3 G.prods.length c3, .int .i64 G.start] 26) = W0 at HB0 HF0 ⊢
  generalize w.heap.size = b at HB0 ⊢
  have e0 := (blk_cell HB0.out 0).trans (show _ = some (Value.slice A0 G.kinds.length c0) from rfl)
  have e1 := (blk_cell HB0.out 1).trans (show _ = some (Value.slice A1 G.precs.length c1) from rfl)
  have e2 := (blk_cell HB0.out 2).trans (show _ = some (Value.slice A2 G.rules.length c2) from rfl)
  have e3 := (blk_cell HB0.out 3).trans (show _ = some (Value.slice A3 G.prods.length c3) from rfl)
  have e4 := (blk_cell HB0.out 4).trans (show _ = some (Value.int .i64 G.start) from rfl)
  go_wp2_with (fail)
  refine (look_calls W0 G A0 A1 A2 A3 c0 c1 c2 c3 (HG.out.go HF0.out)).mono ?_
  rintro e W1 ⟨hLk, hF1⟩
  rcases hLk with ⟨hn, rfl⟩ | ⟨hck, NA, nc, PA, pc, RA, rc, CA, cc, FV, WV, cl, Fo, rfl, hN, hP, _, _, _, hFS, hWS, _⟩
  · have HFE := Aside0.mk (HF0.out.trans (hF1.alloc (.cells nil6 39)) (fun _ _ h => h))
    clear e0 e1 e2 e3 e4 hF1
    go_wp2_with (fail)
    refine (awake_calls (W1.alloc (.cells nil6 39))).mono ?_
    rintro e W7 ⟨rfl, hF7⟩
    have HF7 := Aside0.mk (HFE.out.trans hF7 (fun _ _ h => h))
    clear hF7
    go_wp2_with (fail)
    go_ret
    exact ⟨rfl, HF7.out⟩
  obtain ⟨VA, va, rfl⟩ := Kd.S_slice hFS
  obtain ⟨UA, ua, rfl⟩ := Kd.S_slice hWS
  generalize hu1 : (Fo.map (listI 0)).length = ul
  generalize hv1 : ((firstL G).map (listI 0)).length = vl at hFS ⊢
  have hvl : vl = G.rules.length := by rw [← hv1, List.length_map, (firstL_sized G).fl]
  clear hv1
  subst hvl
  have HC := Aside0.mk hck
  have hR1 := (base_true hck.base).2.1
  have hR2 := (base_true hck.base).2.2.1
  have hK1 := hck.kinds.two
  have hK2 := hck.kinds.max
  have HA1 := Aside0.mk (show AgW w (W1.alloc (.cells #[.slice NA G.rules.length nc, .slice PA G.rules.length pc, .slice RA G.rules.length rc, .slice CA G.rules.length cc, .slice VA G.rules.length va, .slice UA ul ua] 39)) G A0 A1 A2 A3 NA PA RA CA c0 c1 c2 c3 b W1.heap.size nc pc rc cc (.slice VA G.rules.length va) (.slice UA ul ua) from
    ⟨HF0.out.trans (hF1.alloc _) (fun _ _ h => h), (hF1.alloc _).blk HB0.out id, blk_new W1 _, Kd.R_alloc (Kd.R_lower hN HF0.out.size) _, Kd.R_alloc (Kd.R_lower hP HF0.out.size) _, Kd.S_alloc (Kd.S_lower hFS HF0.out.size) _⟩)
  clear hu1 hWS hFS hN hP hF1 hck e0 e1 e2 e3 e4 HF0 HB0
  go_upto_region 2 with fail
  generalize W1.alloc (.cells #[.slice NA G.rules.length nc, .slice PA G.rules.length pc, .slice RA G.rules.length rc, .slice CA G.rules.length cc, .slice VA G.rules.length va, .slice UA ul ua] 39) = W2 at HA1 ⊢
  generalize W1.heap.size = q at HA1 ⊢
  obtain ⟨e0, e1, e2, e3, e4, q0, q1, q4⟩ := HA1.out.cells
  by_cases x1 : rule < 0
  · go_wp2_with (fail)
    refine (awake_calls W2).mono ?_
    rintro e W7 ⟨rfl, hF7⟩
    have HF7 := Aside0.mk (HA1.out.fr.trans hF7 (fun _ _ h => h))
    clear hF7
    go_wp2_with (fail)
    go_ret
    exact ⟨rfl, HF7.out⟩
  by_cases x2 : (G.rules.length : Int) ≤ rule
  · go_wp2_with (fail)
    refine (awake_calls W2).mono ?_
    rintro e W7 ⟨rfl, hF7⟩
    have HF7 := Aside0.mk (HA1.out.fr.trans hF7 (fun _ _ h => h))
    clear hF7
    go_wp2_with (fail)
    go_ret
    exact ⟨rfl, HF7.out⟩
  have p0 : 0 ≤ rule := by omega
  have p1 : rule < G.rules.length := by omega
  go_wp2_with (fail)
  refine (least_calls W2 G A0 A1 A2 A3 c0 c1 c2 c3 (HG.out.go HA1.out.fr) rule).mono ?_
  rintro e W3 ⟨⟨n, sm, r, rfl, h1, _, h3⟩, hF3⟩
  obtain rfl : r = 0 := h1.2 ⟨HC.out, p0, p1⟩
  obtain ⟨L, hL, hn, hs⟩ := h3 rfl
  obtain ⟨a, rfl⟩ := Int.eq_ofNat_of_zero_le p0
  obtain ⟨hTn, hTp⟩ := told hL HC.out.prodsOk (a := a) (by omega)
  have hRR := row_rule HC.out.prodsOk (a := a) (by omega) hK1
  have HA3 := Aside0.mk (HA1.out.go hF3)
  clear HA1 hF3 h1 h3 e0 e1 e2 e3 e4 q0 q1 q4
  obtain ⟨gn, kn, en⟩ := marks_form HA3.out.nul (by rw [closedL_length]; omega)
  injection en with en1 en2 en3
  subst en1
  obtain ⟨gp, kp, ep⟩ := marks_form HA3.out.pro (by rw [closedL_length]; omega)
  injection ep with ep1 ep2 ep3
  subst ep1
  clear en2 en3 ep2 ep3
  have HNB := Aside0.mk (show ∀ W, Fr (fun _ => False) W3 W → W.cell? ⟨gn, a, none⟩ = some (.bool (rdOf false (closedL G false) (a : Int))) ∧ W.cell? ⟨gp, a, none⟩ = some (.bool (rdOf false (closedL G true) (a : Int))) from fun W hF =>
    ⟨(marks_at (HA3.out.go hF).nul p0 (by omega)).1, (marks_at (HA3.out.go hF).pro p0 (by omega)).1⟩)
  obtain ⟨fl, hfl⟩ : ∃ fl, fl = listI 0 (rd_L7 (firstL G) (a : Int)) := ⟨_, rfl⟩
  obtain ⟨adv, Av, cv, ev, hcv, hcv2, hCv⟩ := at_L3 (Kd.S_reads' HA3.out.fst).2.2 (a : Int) p0 (by simp only [List.length_map, (firstL_sized G).fl]; exact p1)
  subst ev
  simp only [Int.toNat_natCast] at hcv
  have hrd : rd_L3 ((firstL G).map (listI 0)) (a : Int) = fl := by
    have h9 := (firstL_sized G).fl
    rw [hfl]
    simp [rd_L3, rd_L7, List.getD_eq_getElem?_getD, show a < (firstL G).length by omega]
  rw [hrd] at hcv hcv2 hCv
  have HFV := Aside0.mk (show ∀ W, Fr (fun _ => False) W3 W → W.cell? (adv.add a) = some (.slice Av fl.length cv) ∧ kI.C W Av fl.length fl from fun W hF => ⟨hF.cell hcv id, Kd.C_below hCv hF.to_below⟩)
  have HCV2 := Aside0.mk hcv2
  clear hrd hcv hcv2 hCv
  have HROW := Aside0.mk (fun (rowl : List Int) (T : List Int) (L' : List Int) (k1 : LeastOk G L') (k2 : TP G L' T) (k3 : SpellS G L' T (G.kinds.length + (a : Int)) rowl) (k4 : rd L' (a : Int) ≤ 65536) (y : Int) (k5 : rowl.head? = some y) => (show y ∈ fl from by
    rw [hfl]
    obtain ⟨t, rfl, hf⟩ := (spell_fst k1 k2 HC.out.prodsOk k3 (by omega) (by omega) (by unfold lenOf; rw [if_neg (by omega), show (G.kinds.length : Int) + (a : Int) - G.kinds.length = a by omega]; exact k4)).2 y k5
    rw [← hRR.1]
    exact (mem_row HC.out.prodsOk (fun x hx => by
      rw [List.mem_singleton] at hx
      rw [hx]
      exact ⟨by omega, by omega⟩) _).2 ⟨t, rfl, hf⟩))
  have HROK := Aside0.mk (show RowOk G.kinds.length G.rules.length [(G.kinds.length : Int) + a] from fun j hj => by
    obtain rfl : j = 0 := by simp at hj; exact hj
    exact ⟨by simp [rd]; omega, by simp [rd]; omega⟩)
  have HSAME := Aside0.mk (fun (L' : List Int) (k1 : LeastOk G L') => least_same k1 hL (a := a) (by omega))
  have hll := listI_len (rd_L7 (firstL G) (a : Int)) 0
  rw [(firstL_sized G).fk a (by omega), ← hfl] at hll
  have HFE := Aside0.mk (show listI 0 (rowOf G [(G.kinds.length : Int) + a]).1 = fl by rw [hRR.1, hfl])
  have HRE := Aside0.mk hRR.2
  clear hfl
  have hwr : IntKind.i64.wrap ((G.kinds.length : Int) + a) = (G.kinds.length : Int) + a := by rw [i64_w]; simp only [wrap64]; omega
  -- the end: the row is told, what it begins with is asked, and all agrees
  generalize hz2 : rd L (a : Int) = z at hn hs hTn hTp HSAME
  have hbz := hL.bound (a : Int)
  rw [hz2] at hbz
  clear hz2 hL hRR
  generalize hnb : rdOf false (closedL G false) (a : Int) = nb at HNB hTn HRE
  generalize rdOf false (closedL G true) (a : Int) = pb at HNB hTp
  clear hnb
  obtain ⟨e0, e1, e2, e3, e4, q0, q1, q4⟩ := HA3.out.cells
  obtain ⟨n0, n1⟩ := HNB.out W3 (Fr.refl _ _)
  rcases Int.lt_trichotomy z 0 with hz | hz | hz
  · -- no row at all
    obtain rfl : sm = false := by rw [hs]; exact decide_eq_false (by omega)
    obtain rfl : n = 0 := by rw [hn]; unfold mx; split <;> omega
    obtain rfl : nb = false := by cases nb with | false => rfl | true => (have := hTn.1 rfl; omega)
    obtain rfl : pb = false := by cases pb with | false => rfl | true => (have := hTp.1 rfl; omega)
    clear hTn hTp hn hs
    go_wp2_with (fail)
    refine (grow_calls W3 G A0 A1 A2 A3 c0 c1 c2 c3 (HG.out.go HA3.out.fr) (a : Int)).mono ?_
    rintro e W4 ⟨⟨v, r, l, rfl, hRl, hcase⟩, hF4⟩
    rcases hcase with ⟨hno, _⟩ | ⟨_, L', hL', htold⟩
    · exact absurd ⟨HC.out, p0, p1⟩ hno
    · obtain ⟨rfl, rfl⟩ := htold.none (by rw [HSAME.out L' hL']; exact hz)
      have HA4 := Aside0.mk (HA3.out.go hF4)
      clear htold hRl hF4 e0 e1 e2 e3 e4 q0 q1 q4 n0 n1 HA3
      go_wp2_with (fail)
      refine (awake_calls W4).mono ?_
      rintro e W7 ⟨rfl, hF7⟩
      have HF7 := Aside0.mk (HA4.out.fr.trans hF7 (fun _ _ h => h))
      clear hF7
      go_wp2_with (fail)
      go_ret
      exact ⟨rfl, HF7.out⟩
  · -- nothing at all
    subst hz
    obtain rfl : sm = true := by rw [hs]; rfl
    obtain rfl : n = 0 := by rw [hn]; rfl
    obtain rfl : nb = true := hTn.2 rfl
    obtain rfl : pb = true := hTp.2 (by omega)
    clear hTn hTp hn hs
    go_wp2_with (fail)
    refine (grow_calls W3 G A0 A1 A2 A3 c0 c1 c2 c3 (HG.out.go HA3.out.fr) (a : Int)).mono ?_
    rintro e W4 ⟨⟨v, r, l, rfl, hRl, hcase⟩, hF4⟩
    rcases hcase with ⟨hno, _⟩ | ⟨_, L', hL', htold⟩
    · exact absurd ⟨HC.out, p0, p1⟩ hno
    · have hsame := HSAME.out L' hL'
      obtain ⟨rfl, hlen, _⟩ := htold.good (by omega) (by omega)
      rw [hsame] at hlen
      obtain rfl : l = [] := List.eq_nil_of_length_eq_zero (by omega)
      obtain ⟨RWA, rwc, rfl⟩ := Kd.R_slice hRl
      simp only [List.length_nil]
      have HF35 := Aside0.mk (hF4.trans (Fr.refl (fun _ => False) W4).drew (fun _ _ h => h))
      clear htold hRl hF4 e0 e1 e2 e3 e4 q0 q1 q4 n0 n1 hsame hL' hlen HROW HSAME
      go_wp2_with (fail)
      refine wp_region_held_drew (S := fun _ => True) (by kernel_rfl) trivial (fun hHeld => ?_)
      refine wpAnyH_take (i := 0) (oi := ?ok0) (v := ?vk0) ?hok0 (by kernel_rfl) (by kernel_rfl) (by kernel_rfl) ?hqk0 ?hyk0 (by assumption) ?restk0
      case hok0 => (simp only [List.getElem?_toArray, List.getElem?_cons_zero]; rfl)
      case hqk0 => exact fun _ _ _ h => h
      case hyk0 => (refine Or.inl ⟨by rfl, ?_⟩; intro w0 hSw; (try dsimp only at hSw); go_simp; try with_reducible rfl)
      try simp only [Act.put, List.setIfInBounds_toArray, List.set_cons_zero, List.set_cons_succ]
      refine wpAnyH_take (i := 1) (oi := ?ok1) (v := ?vk1) ?hok1 (by kernel_rfl) (by kernel_rfl) (by kernel_rfl) ?hqk1 ?hyk1 (by assumption) ?restk1
      case hok1 => (simp only [List.getElem?_toArray, List.getElem?_cons_succ, List.getElem?_cons_zero]; rfl)
      case hqk1 => exact fun _ _ _ h => h
      case hyk1 => (refine Or.inl ⟨by rfl, ?_⟩; intro w0 hSw; (try dsimp only at hSw); go_simp; try with_reducible rfl)
      try simp only [Act.put, List.setIfInBounds_toArray, List.set_cons_zero, List.set_cons_succ]
      refine wpAnyH_take (i := 2) (oi := ?ok2) (v := ?vk2) ?hok2 (by kernel_rfl) (by kernel_rfl) (by kernel_rfl) ?hqk2 ?hyk2 (by assumption) ?restk2
      case hok2 => (simp only [List.getElem?_toArray, List.getElem?_cons_succ, List.getElem?_cons_zero]; rfl)
      case hqk2 => exact fun _ _ _ h => h
      case hyk2 => (refine Or.inl ⟨by rfl, ?_⟩; intro w0 hSw; (try dsimp only at hSw); go_simp; try with_reducible rfl)
      try simp only [Act.put, List.setIfInBounds_toArray, List.set_cons_zero, List.set_cons_succ]
      refine wpAnyH_take (i := 3) (oi := ?ok3) (v := .bool false) ?hok3 (by kernel_rfl) (by kernel_rfl) (by kernel_rfl) ?hqk3 ?hyk3 (by assumption) ?restk3
      case hok3 => (simp only [List.getElem?_toArray, List.getElem?_cons_succ, List.getElem?_cons_zero]; rfl)
      case hqk3 => exact fun _ _ _ h => h
      case hyk3 => (refine Or.inl ⟨by rfl, ?_⟩; intro w0 hSw; (try dsimp only at hSw); go_simp; try with_reducible rfl)
      try simp only [Act.put, List.setIfInBounds_toArray, List.set_cons_zero, List.set_cons_succ]
      refine wpAnyH_take (i := 4) (oi := ?ok4) (v := ?vk4) ?hok4 (by kernel_rfl) (by kernel_rfl) (by kernel_rfl) ?hqk4 ?hyk4 (by assumption) ?restk4
      case hok4 => (simp only [List.getElem?_toArray, List.getElem?_cons_succ, List.getElem?_cons_zero]; rfl)
      case hqk4 => exact fun _ _ _ h => h
      case hyk4 => (refine Or.inl ⟨by rfl, ?_⟩; intro w0 hSw; (try dsimp only at hSw); go_simp; try with_reducible rfl)
      try simp only [Act.put, List.setIfInBounds_toArray, List.set_cons_zero, List.set_cons_succ]
      refine wpAnyH_take (i := 5) (oi := ?ok5) (v := ?vk5) ?hok5 (by kernel_rfl) (by kernel_rfl) (by kernel_rfl) ?hqk5 ?hyk5 (by assumption) ?restk5
      case hok5 => (simp only [List.getElem?_toArray, List.getElem?_cons_succ, List.getElem?_cons_zero]; rfl)
      case hqk5 => exact fun _ _ _ h => h
      case hyk5 => (refine Or.inl ⟨by rfl, ?_⟩; intro w0 hSw; (try dsimp only at hSw); go_simp; try with_reducible rfl)
      try simp only [Act.put, List.setIfInBounds_toArray, List.set_cons_zero, List.set_cons_succ]
      refine wpAnyH_take (i := 6) (oi := ?ok6) (v := .bool false) ?hok6 (by kernel_rfl) (by kernel_rfl) (by kernel_rfl) ?hqk6 ?hyk6 (by assumption) ?restk6
      case hok6 => (simp only [List.getElem?_toArray, List.getElem?_cons_succ, List.getElem?_cons_zero]; rfl)
      case hqk6 => exact fun _ _ _ h => h
      case hyk6 => (refine Or.inl ⟨by rfl, ?_⟩; intro w0 hSw; (try dsimp only at hSw); go_simp; try with_reducible rfl)
      try simp only [Act.put, List.setIfInBounds_toArray, List.set_cons_zero, List.set_cons_succ]
      refine wpAnyH_take (i := 7) (oi := ?ok7) (v := ?vk7) ?hok7 (by kernel_rfl) (by kernel_rfl) (by kernel_rfl) ?hqk7 ?hyk7 (by assumption) ?restk7
      case hok7 => (simp only [List.getElem?_toArray, List.getElem?_cons_succ, List.getElem?_cons_zero]; rfl)
      case hqk7 => exact fun _ _ _ h => h
      case hyk7 => (refine Or.inl ⟨by rfl, ?_⟩; intro w0 hSw; (try dsimp only at hSw); go_simp; try with_reducible rfl)
      try simp only [Act.put, List.setIfInBounds_toArray, List.set_cons_zero, List.set_cons_succ]
      refine wpAnyH_take (i := 8) (oi := ?ok8) (v := undef) ?hok8 (by kernel_rfl) (by kernel_rfl) (by kernel_rfl) ?hqk8 ?hyk8 (by assumption) ?restk8
      case hok8 => (simp only [List.getElem?_toArray, List.getElem?_cons_succ, List.getElem?_cons_zero]; rfl)
      case hqk8 => exact fun _ _ _ h => h
      case hyk8 => exact Or.inr ⟨by rfl, rfl⟩
      try simp only [Act.put, List.setIfInBounds_toArray, List.set_cons_zero, List.set_cons_succ]
      refine wpAnyH_take (i := 9) (oi := ?ok9) (v := undef) ?hok9 (by kernel_rfl) (by kernel_rfl) (by kernel_rfl) ?hqk9 ?hyk9 (by assumption) ?restk9
      case hok9 => (simp only [List.getElem?_toArray, List.getElem?_cons_succ, List.getElem?_cons_zero]; rfl)
      case hqk9 => exact fun _ _ _ h => h
      case hyk9 => exact Or.inr ⟨by rfl, rfl⟩
      try simp only [Act.put, List.setIfInBounds_toArray, List.set_cons_zero, List.set_cons_succ]
      refine wpAnyH_take (i := 10) (oi := ?ok10) (v := undef) ?hok10 (by kernel_rfl) (by kernel_rfl) (by kernel_rfl) ?hqk10 ?hyk10 (by assumption) ?restk10
      case hok10 => (simp only [List.getElem?_toArray, List.getElem?_cons_succ, List.getElem?_cons_zero]; rfl)
      case hqk10 => exact fun _ _ _ h => h
      case hyk10 => exact Or.inr ⟨by rfl, rfl⟩
      try simp only [Act.put, List.setIfInBounds_toArray, List.set_cons_zero, List.set_cons_succ]
      refine wpAnyH_take (i := 11) (oi := ?ok11) (v := undef) ?hok11 (by kernel_rfl) (by kernel_rfl) (by kernel_rfl) ?hqk11 ?hyk11 (by assumption) ?restk11
      case hok11 => (simp only [List.getElem?_toArray, List.getElem?_cons_succ, List.getElem?_cons_zero]; rfl)
      case hqk11 => exact fun _ _ _ h => h
      case hyk11 => exact Or.inr ⟨by rfl, rfl⟩
      try simp only [Act.put, List.setIfInBounds_toArray, List.set_cons_zero, List.set_cons_succ]
      refine wpAnyH_take (i := 12) (oi := ?ok12) (v := undef) ?hok12 (by kernel_rfl) (by kernel_rfl) (by kernel_rfl) ?hqk12 ?hyk12 (by assumption) ?restk12
      case hok12 => (simp only [List.getElem?_toArray, List.getElem?_cons_succ, List.getElem?_cons_zero]; rfl)
      case hqk12 => exact fun _ _ _ h => h
      case hyk12 => exact Or.inr ⟨by rfl, rfl⟩
      try simp only [Act.put, List.setIfInBounds_toArray, List.set_cons_zero, List.set_cons_succ]
      refine wpAnyH_take (i := 13) (oi := ?ok13) (v := undef) ?hok13 (by kernel_rfl) (by kernel_rfl) (by kernel_rfl) ?hqk13 ?hyk13 (by assumption) ?restk13
      case hok13 => (simp only [List.getElem?_toArray, List.getElem?_cons_succ, List.getElem?_cons_zero]; rfl)
      case hqk13 => exact fun _ _ _ h => h
      case hyk13 => exact Or.inr ⟨by rfl, rfl⟩
      try simp only [Act.put, List.setIfInBounds_toArray, List.set_cons_zero, List.set_cons_succ]
      refine wpAnyH_take (i := 14) (oi := ?ok14) (v := undef) ?hok14 (by kernel_rfl) (by kernel_rfl) (by kernel_rfl) ?hqk14 ?hyk14 (by assumption) ?restk14
      case hok14 => (simp only [List.getElem?_toArray, List.getElem?_cons_succ, List.getElem?_cons_zero]; rfl)
      case hqk14 => exact fun _ _ _ h => h
      case hyk14 => exact Or.inr ⟨by rfl, rfl⟩
      try simp only [Act.put, List.setIfInBounds_toArray, List.set_cons_zero, List.set_cons_succ]
      refine wpAnyH_take (i := 15) (oi := ?ok15) (v := undef) ?hok15 (by kernel_rfl) (by kernel_rfl) (by kernel_rfl) ?hqk15 ?hyk15 (by assumption) ?restk15
      case hok15 => (simp only [List.getElem?_toArray, List.getElem?_cons_succ, List.getElem?_cons_zero]; rfl)
      case hqk15 => exact fun _ _ _ h => h
      case hyk15 => exact Or.inr ⟨by rfl, rfl⟩
      try simp only [Act.put, List.setIfInBounds_toArray, List.set_cons_zero, List.set_cons_succ]
      refine wpAnyH_ready (rs := [16]) (by kernel_rfl) (by simp) ?_
      refine AllReadyH.cons (o := ?ok16) ?hok16 ?hsk16 AllReadyH.nil
      case hok16 => (simp only [List.getElem?_toArray, List.getElem?_cons_succ, List.getElem?_cons_zero]; rfl)
      intro K hK
      go_simp
      refine hK.out _ _ (by assumption) (fun hHeld => ?_)
      clear hK K
      try simp only [Act.put, List.setIfInBounds_toArray, List.set_cons_zero, List.set_cons_succ]
      refine wpAnyH_take (i := 17) (oi := ?ok17) (v := undef) ?hok17 (by kernel_rfl) (by kernel_rfl) (by kernel_rfl) ?hqk17 ?hyk17 (by assumption) ?restk17
      case hok17 => (simp only [List.getElem?_toArray, List.getElem?_cons_succ, List.getElem?_cons_zero]; rfl)
      case hqk17 => exact fun _ _ _ h => h
      case hyk17 => exact Or.inr ⟨by rfl, rfl⟩
      try simp only [Act.put, List.setIfInBounds_toArray, List.set_cons_zero, List.set_cons_succ]
      refine wpAnyH_take (i := 18) (oi := ?ok18) (v := ?vk18) ?hok18 (by kernel_rfl) (by kernel_rfl) (by kernel_rfl) ?hqk18 ?hyk18 (by assumption) ?restk18
      case hok18 => (simp only [List.getElem?_toArray, List.getElem?_cons_succ, List.getElem?_cons_zero]; rfl)
      case hqk18 => exact fun _ _ _ h => h
      case hyk18 => (refine Or.inl ⟨by rfl, ?_⟩; intro w0 hSw; (try dsimp only at hSw); go_simp; try with_reducible rfl)
      try simp only [Act.put, List.setIfInBounds_toArray, List.set_cons_zero, List.set_cons_succ]
      refine wpAnyH_take (i := 19) (oi := ?ok19) (v := ?vk19) ?hok19 (by kernel_rfl) (by kernel_rfl) (by kernel_rfl) ?hqk19 ?hyk19 (by assumption) ?restk19
      case hok19 => (simp only [List.getElem?_toArray, List.getElem?_cons_succ, List.getElem?_cons_zero]; rfl)
      case hqk19 => exact fun _ _ _ h => h
      case hyk19 => (refine Or.inl ⟨by rfl, ?_⟩; intro w0 hSw; (try dsimp only at hSw); go_simp; try with_reducible rfl)
      try simp only [Act.put, List.setIfInBounds_toArray, List.set_cons_zero, List.set_cons_succ]
      refine wpAnyH_done (by kernel_rfl) ?_ _
      generalize W4.drew = W5 at HF35 ⊢
      have HA5 := Aside0.mk (HA3.out.go HF35.out)
      have HF6 := Aside0.mk ((Fr.refl (fun _ => False) W5).alloc (.cells #[.int .i64 ((G.kinds.length : Int) + a)] 3))
      have HLIT := Aside0.mk (show kI.R 3 (W5.alloc (.cells #[.int .i64 ((G.kinds.length : Int) + a)] 3)) W5.heap.size (fun _ => True) (.slice (some ⟨W5.heap.size, 0, none⟩) 1 1) [(G.kinds.length : Int) + a] from Kd.R_of_own (own_lit_of W5 W5.heap.size 3 [(G.kinds.length : Int) + a] (Nat.le_refl _) (by simp)) (fun _ _ => trivial))
      obtain ⟨e0, e1, e2, e3, e4, q0, q1, q4⟩ := HA5.out.cells
      have f3 := HF6.out.cell e3 id
      clear HA3
      go_wp2_with (fail)
      refine (first_calls (W5.alloc (.cells #[.int .i64 ((G.kinds.length : Int) + a)] 3)) G A0 A1 A2 A3 c0 c1 c2 c3 (HG.out.go (HA5.out.fr.trans HF6.out (fun _ _ h => h))) (some ⟨W5.heap.size, 0, none⟩) 1 [(G.kinds.length : Int) + a] (Kd.R_reads' HLIT.out).2.2).mono ?_
      rintro e W6 ⟨⟨v6, em, r6, l6, rfl, hR6, hi6, hv6⟩, hF6⟩
      obtain rfl : r6 = 0 := hi6.2 ⟨HC.out, HROK.out⟩
      obtain ⟨hl6, he6⟩ := hv6 rfl
      rw [HFE.out] at hl6
      rw [HRE.out] at he6
      subst hl6 he6
      obtain ⟨A6, k6, rfl⟩ := Kd.R_slice hR6
      have HF56 := Aside0.mk (HF6.out.trans hF6 (fun _ _ h => h))
      have HF36 := Aside0.mk (HF35.out.trans HF56.out (fun _ _ h => h))
      have HA6 := Aside0.mk (HA5.out.go HF56.out)
      have HR6 := Aside0.mk hR6
      clear hi6 hv6 hR6 hF6 HF6 HLIT e0 e1 e2 e3 e4 q0 q1 q4 f3 HA5
      obtain ⟨e0, e1, e2, e3, e4, q0, q1, q4⟩ := HA6.out.cells
      obtain ⟨n0, n1⟩ := HNB.out W6 HF36.out
      have hfv := (HFV.out W6 HF36.out).1
      have HSC := Aside0.mk (same_calls W6 A6 Av _ _ k6 cv _ (Kd.R_reads' HR6.out).2.2 (HFV.out W6 HF36.out).2 rfl rfl (by omega))
      go_wp2_with (fail)
      refine HSC.out.mono ?_
      rintro e W7 ⟨rfl, hF7⟩
      have HF7 := Aside0.mk (HA6.out.fr.trans hF7 (fun _ _ h => h))
      clear hF7 e0 e1 e2 e3 e4 q0 q1 q4 n0 n1 hfv HSC
      go_wp2_with (fail)
      refine (awake_calls W7).mono ?_
      rintro e W8 ⟨rfl, hF8⟩
      have HF8 := Aside0.mk (HF7.out.trans hF8 (fun _ _ h => h))
      clear hF8
      go_wp2_with (fail)
      go_ret
      exact ⟨rfl, HF8.out⟩
  · -- a row
    obtain rfl : sm = true := by rw [hs]; exact decide_eq_true (by omega)
    obtain rfl : n = z := by rw [hn]; unfold mx; split <;> omega
    obtain rfl : nb = false := by cases nb with | false => rfl | true => (have := hTn.1 rfl; omega)
    obtain rfl : pb = true := hTp.2 (by omega)
    have hzb : (n == 0) = false := by have : n ≠ 0 := (by omega); simp [this]
    clear hTn hTp hn hs
    go_wp2_with (fail)
    refine (grow_calls W3 G A0 A1 A2 A3 c0 c1 c2 c3 (HG.out.go HA3.out.fr) (a : Int)).mono ?_
    rintro e W4 ⟨⟨v, r, l, rfl, hRl, hcase⟩, hF4⟩
    rcases hcase with ⟨hno, _⟩ | ⟨_, L', hL', htold⟩
    · exact absurd ⟨HC.out, p0, p1⟩ hno
    · have hsame := HSAME.out L' hL'
      by_cases hlong : 65536 < n
      · obtain ⟨rfl, rfl⟩ := htold.long (by omega)
        have HA4 := Aside0.mk (HA3.out.go hF4)
        clear htold hRl hF4 e0 e1 e2 e3 e4 q0 q1 q4 n0 n1 HA3 hsame
        go_wp2_with (fail)
        refine (awake_calls W4).mono ?_
        rintro e W7 ⟨rfl, hF7⟩
        have HF7 := Aside0.mk (HA4.out.fr.trans hF7 (fun _ _ h => h))
        clear hF7
        go_wp2_with (fail)
        go_ret
        exact ⟨rfl, HF7.out⟩
      · obtain ⟨rfl, hlen, T, hTT, hsp⟩ := htold.good (by omega) (by omega)
        rw [hsame] at hlen
        obtain ⟨y, l', rfl⟩ : ∃ y l', l = y :: l' := by
          cases l with
          | nil => exact absurd hlen (by simp only [List.length_nil]; omega)
          | cons y l' => exact ⟨y, l', rfl⟩
        have hy := HROW.out (y :: l') T L' hL' hTT hsp (by omega) y rfl
        obtain ⟨RWA, rwc, rfl⟩ := Kd.R_slice hRl
        obtain ⟨adr, rfl, hxr⟩ := Kd.at_int (Kd.R_reads' hRl).2.2 0 (Int.le_refl _) (by simp only [List.length_cons]; omega)
        have hxr : W4.cell? (adr.add 0) = some (.int .i64 y) := hxr
        rw [show adr.add 0 = adr by unfold Addr.add; rfl] at hxr
        have HY := Aside0.mk hy
        have hlen2 : (((y :: l').length : Nat) : Int) = n := hlen
        generalize (y :: l').length = rn at hlen2 ⊢
        have HA4 := Aside0.mk (HA3.out.go hF4)
        have HF34 := Aside0.mk hF4
        have hfv := (HFV.out W4 hF4).1
        have HASC := Aside0.mk (fun W (hF : Fr (fun _ => False) W3 W) => has_calls W Av cv fl y (HFV.out W hF).2 HCV2.out (by omega))
        have hq4 := HA4.out.cells.2.2.2.2.2.2.2
        clear htold hRl hF4 e0 e1 e2 e3 e4 q0 q1 q4 n0 n1 hsame hL' hlen hTT hsp hy HROW HSAME
        subst hlen2
        have hrn : ((rn : Int) != (rn : Int)) = false := by simp
        have hgt : 0 < rn := by omega
        have hgt2 : decide ((0 : Int) < (rn : Int)) = true := decide_eq_true (by omega)
        have hgt3 : decide (0 < rn) = true := decide_eq_true hgt
        go_wp2_with (fail)
        go_region_held3 (fun w' => w'.cell? ⟨q, 4, none⟩ = some (.slice (some adv) G.rules.length va) ∧ w'.cell? (adv.add a) = some (.slice Av fl.length cv) ∧ w'.cell? adr = some (.int .i64 y)) (go_keep)
          (first | (go_at_call 11; refine (HASC.out _ (HF34.out.trans (Fr.refl (fun _ => False) W4).drew (fun _ _ h => h))).mono ?_; rintro e W5 ⟨rfl, hF5⟩; rw [decide_eq_true HY.out]; have HF45 := Aside0.mk (((Fr.refl (fun _ => False) W4).drew).trans hF5 (fun _ _ h => h)); have u0 := HF45.out.cell hq4 id; have u1 := HF45.out.cell hfv id; have u2 := HF45.out.cell hxr id; clear hF5))
        have HF35 := Aside0.mk (HF34.out.trans HF45.out (fun _ _ h => h))
        clear HF34 HF45 HASC HA4 hfv hxr hq4 u0 u1 u2
        have HA5 := Aside0.mk (HA3.out.go HF35.out)
        have HF6 := Aside0.mk ((Fr.refl (fun _ => False) W5).alloc (.cells #[.int .i64 ((G.kinds.length : Int) + a)] 3))
        have HLIT := Aside0.mk (show kI.R 3 (W5.alloc (.cells #[.int .i64 ((G.kinds.length : Int) + a)] 3)) W5.heap.size (fun _ => True) (.slice (some ⟨W5.heap.size, 0, none⟩) 1 1) [(G.kinds.length : Int) + a] from Kd.R_of_own (own_lit_of W5 W5.heap.size 3 [(G.kinds.length : Int) + a] (Nat.le_refl _) (by simp)) (fun _ _ => trivial))
        obtain ⟨e0, e1, e2, e3, e4, q0, q1, q4⟩ := HA5.out.cells
        have f3 := HF6.out.cell e3 id
        clear HA3
        go_wp2_with (fail)
        refine (first_calls (W5.alloc (.cells #[.int .i64 ((G.kinds.length : Int) + a)] 3)) G A0 A1 A2 A3 c0 c1 c2 c3 (HG.out.go (HA5.out.fr.trans HF6.out (fun _ _ h => h))) (some ⟨W5.heap.size, 0, none⟩) 1 [(G.kinds.length : Int) + a] (Kd.R_reads' HLIT.out).2.2).mono ?_
        rintro e W6 ⟨⟨v6, em, r6, l6, rfl, hR6, hi6, hv6⟩, hF6⟩
        obtain rfl : r6 = 0 := hi6.2 ⟨HC.out, HROK.out⟩
        obtain ⟨hl6, he6⟩ := hv6 rfl
        rw [HFE.out] at hl6
        rw [HRE.out] at he6
        subst hl6 he6
        obtain ⟨A6, k6, rfl⟩ := Kd.R_slice hR6
        have HF56 := Aside0.mk (HF6.out.trans hF6 (fun _ _ h => h))
        have HF36 := Aside0.mk (HF35.out.trans HF56.out (fun _ _ h => h))
        have HA6 := Aside0.mk (HA5.out.go HF56.out)
        have HR6 := Aside0.mk hR6
        clear hi6 hv6 hR6 hF6 HF6 HLIT e0 e1 e2 e3 e4 q0 q1 q4 f3 HA5
        obtain ⟨e0, e1, e2, e3, e4, q0, q1, q4⟩ := HA6.out.cells
        obtain ⟨n0, n1⟩ := HNB.out W6 HF36.out
        have hfv := (HFV.out W6 HF36.out).1
        have HSC := Aside0.mk (same_calls W6 A6 Av _ _ k6 cv _ (Kd.R_reads' HR6.out).2.2 (HFV.out W6 HF36.out).2 rfl rfl (by omega))
        go_wp2_with (fail)
        refine HSC.out.mono ?_
        rintro e W7 ⟨rfl, hF7⟩
        have HF7 := Aside0.mk (HA6.out.fr.trans hF7 (fun _ _ h => h))
        clear hF7 e0 e1 e2 e3 e4 q0 q1 q4 n0 n1 hfv HSC
        go_wp2_with (fail)
        refine (awake_calls W7).mono ?_
        rintro e W8 ⟨rfl, hF8⟩
        have HF8 := Aside0.mk (HF7.out.trans hF8 (fun _ _ h => h))
        clear hF8
        go_wp2_with (fail)
        go_ret
        exact ⟨rfl, HF8.out⟩
end Go.Proofs.Ytdngobjcdajogaa.Gram
