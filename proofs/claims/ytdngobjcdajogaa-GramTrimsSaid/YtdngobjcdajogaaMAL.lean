/-
Rows of marks, one for each rule: gram.fresh, walked.
-/
import Derived.Deep.RegionLaw
import Derived.Test.YtdngobjcdajogaaMAK
import Derived.Deep.RegionHeld3
set_option linter.unusedSimpArgs false
set_option linter.unusedVariables false
namespace Go.Proofs.Ytdngobjcdajogaa.Gram
open Go.RowKit Go.Proofs.YtdngobjcdajogaaW.PrintWords Go.Proofs.YtdngobjcdajogaaW.PrintLast Go.Proofs.YtdngobjcdajogaaW.PrintMore Go.Proofs.Ytdngobjcdajogaa.Fr Go.Proofs.Ytdngobjcdajogaa.PGramFirsts Go.Proofs.Ytdngobjcdajogaa.TextSet
abbrev kR : Kd (List Bool) := Kd.slice 4 kB
theorem rows_put {W W1 : World} {base n gb cap i : Nat} {v : Value} {xs : List (List Bool)} {row : List Bool} (h : Kd.S kR 36 W base (fun _ => True) (.slice (some ⟨gb, 0, none⟩) n cap) xs) (hb : Below W.heap.size W W1) (hv : kB.R 4 W1 W.heap.size (fun _ => True) v row) (hbase : base ≤ W.heap.size) (hi : i < n) :
 Kd.S kR 36 (W1.setCell ⟨gb, i, none⟩ v) base (fun _ => True) (.slice (some ⟨gb, 0, none⟩) n cap) (xs.set i row) ∧ base ≤ gb := by
 have hgb : base ≤ gb := Kd.S_base h gb rfl; have hlt : gb < W.heap.size := Kd.S_lt h gb rfl; have hvb := Kd.R_base hv; have h1 := Kd.S_mono (Kd.S_elder' h hvb hb) (fun k hk => (⟨trivial, fun e => hk.2 e⟩ : True ∧ ¬ some k = v.ownBlock)); obtain ⟨oki, c, _, hM, _, _, _, hH⟩ := Kd.S_elem h1 [] (i : Int) (by omega) (by omega); obtain ⟨ve, rfl, _⟩ := hM; have hp := Kd.S_seg (okg := fun k => some k = v.ownBlock) (okp := fun k => some k = v.ownBlock) hH (by omega) (by omega) (seg := [v]) (j := 0) (show 1 ≤ 1 from Nat.le_refl 1) (x' := row) (Kd.M_row (Kd.R_tight rfl (Kd.R_lower hv hbase))) (fun k hk => .inr hk) (fun k hk => ⟨trivial, by have := hvb k hk.symm; omega⟩); simp only [show kR.sz = 1 from rfl, Nat.mul_one, Nat.add_zero, Int.toNat_natCast] at hp; exact ⟨hp.1, hgb⟩
theorem rows_at {W : World} {base n gb cap i : Nat} {ok : Nat → Prop} {xs : List (List Bool)} (h : Kd.S kR 36 W base ok (.slice (some ⟨gb, 0, none⟩) n cap) xs) (hi : i < n) :
 ∃ A c oki, W.cell? ⟨gb, i, none⟩ = some (.slice A (xs.getD i []).length c) ∧ W.frozen? ⟨gb, i, none⟩ = false ∧ kB.R 4 W base oki (.slice A (xs.getD i []).length c) (xs.getD i []) ∧ (∀ k, oki k → ok k ∧ k ≠ gb) := by
 obtain ⟨oki, c, _, hM, hcc, hfr, hok, _⟩ := Kd.S_elem h [] (i : Int) (by omega) (by omega); obtain ⟨ve, rfl, hR⟩ := hM; obtain ⟨A, k, rfl⟩ := Kd.R_slice hR; have h1 := hcc 0 _ rfl; have h2 := hfr 0; simp only [show kR.sz = 1 from rfl, Nat.mul_one, Nat.add_zero, Int.toNat_natCast] at h1 h2 hR; exact ⟨A, k, oki, h1, h2, hR, hok⟩
structure FW (w W : World) (G : Gr) (A0 A1 A2 A3 : Option Addr) (c0 c1 c2 c3 : Nat) (v : Value) (xs : List (List Bool)) : Prop where
 chk : ChkW w W G A0 A1 A2 A3 c0 c1 c2 c3
 rows : Kd.S kR 36 W (w.heap.size + 1) (fun _ => True) v xs
theorem FW.put {w W W1 : World} {G : Gr} {A0 A1 A2 A3 : Option Addr} {c0 c1 c2 c3 n gb cap i : Nat} {v : Value} {xs : List (List Bool)} {row : List Bool} (h : FW w W G A0 A1 A2 A3 c0 c1 c2 c3 (.slice (some ⟨gb, 0, none⟩) n cap) xs) (hb : Below W.heap.size W W1) (hv : kB.R 4 W1 W.heap.size (fun _ => True) v row) (hi : i < n) :
 FW w (W1.setCell ⟨gb, i, none⟩ v) G A0 A1 A2 A3 c0 c1 c2 c3 (.slice (some ⟨gb, 0, none⟩) n cap) (xs.set i row) := by
 have h1 := blk_lt h.chk.box; obtain ⟨h2, h3⟩ := rows_put h.rows hb hv (by omega) hi; have h4 := h.chk.go (Fr.of_below hb); have hF : Fr (fun k => k = gb) W1 (W1.setCell ⟨gb, i, none⟩ v) := (Fr.refl (fun k => k = gb) W1).set (g := gb) (o := i) _ (fun _ => rfl); exact ⟨⟨hF.blk h4.box (by omega), h4.fr.trans hF (fun k hk e => by omega)⟩, h2⟩
theorem sets_form {W : World} {B : Nat} {ok : Nat → Prop} {v : Value} {l : List (List Bool)} (h : Kd.S kR 36 W B ok v l) (hl : 1 ≤ l.length) : ∃ g cap, v = .slice (some ⟨g, 0, none⟩) l.length cap := by
 obtain ⟨g, cap, e, _⟩ := Kd.S_form h hl; exact ⟨g, cap, e⟩
def freshL (R K : Nat) : List (List Bool) := List.replicate R (List.replicate K false)
theorem freshL_end {R K : Nat} {xs : List (List Bool)} (hl : xs.length = R) (h : ∀ j, j < R → xs[j]? = some (List.replicate K false)) : xs = freshL R K := by
 apply List.ext_getElem?
 intro j; by_cases hj : j < R
 · rw [h j hj, freshL, List.getElem?_replicate, if_pos hj]
 · rw [List.getElem?_eq_none (by omega), freshL, List.getElem?_replicate, if_neg hj]
set_option maxHeartbeats 4000000 in
set_option maxRecDepth 100000 in
theorem fresh_calls (w : World) (G : Gr) (A0 A1 A2 A3 : Option Addr) (c0 c1 c2 c3 : Nat) (hR1 : 1 ≤ G.rules.length) (hR : G.rules.length ≤ 2048) (hK : G.kinds.length ≤ 1000000) :
 Calls Try.prog 66 #[.agg #[.slice A0 G.kinds.length c0, .slice A1 G.precs.length c1, .slice A2 G.rules.length c2, .slice A3 G.prods.length c3, .int .i64 G.start]] w fun e w' =>
  ∃ v, e = .returned v ∧ Kd.S kR 36 w' (w.heap.size + 1) (fun _ => True) v (freshL G.rules.length G.kinds.length) ∧ Fr (fun _ => False) w w' := by
 have hu := Try.underlying26; have HW := Aside0.mk (show ChkW w (w.alloc (.cells #[.slice A0 G.kinds.length c0, .slice A1 G.precs.length c1, .slice A2 G.rules.length c2, .slice A3 G.prods.length c3, .int .i64 G.start] 26)) G A0 A1 A2 A3 c0 c1 c2 c3 from ⟨blk_new w _, (Fr.refl _ w).alloc _⟩); have hws : (w.alloc (.cells #[.slice A0 G.kinds.length c0, .slice A1 G.precs.length c1, .slice A2 G.rules.length c2, .slice A3 G.prods.length c3, .int .i64 G.start] 26)).heap.size = w.heap.size + 1 := by simp only [World.size_alloc]
 go_enter Try.func66, Try.ntmps66
 go_upto_region 1 with fail
 generalize w.alloc (.cells #[.slice A0 G.kinds.length c0, .slice A1 G.precs.length c1, .slice A2 G.rules.length c2, .slice A3 G.prods.length c3, .int .i64 G.start] 26) = W0 at HW hws ⊢; obtain ⟨e0, e1, e2, e3, e4⟩ := HW.out.cells; go_upto_region 2 with (at_make; refine Kd.S_make kR (w0 := W0) W0.heap.size 36 rfl (N := 8) rfl 77 _ _ rfl (G.rules.length : Int) rfl rfl Try.underlying77 (.slice none 0 0) 24 info36 rfl (by decide) (by omega) [] (ok := fun _ => True) (okp := fun _ => True) ⟨_, rfl, Kd.R_nil _ _ _ _ _⟩ (fun _ hk => hk) trivial (by omega) (by omega) (Below.refl _ _) (Nat.le_refl _) ?_; intro v1 W1 h1 hB1 hg1 hb1; have HX := Aside0.mk (show FW w W1 G A0 A1 A2 A3 c0 c1 c2 c3 v1 (List.replicate G.rules.length []) from ⟨HW.out.go (Fr.of_below hB1), by simpa [hws] using h1⟩); clear h1 hB1 hg1)
 obtain ⟨gb, cap, rfl⟩ := sets_form HX.out.rows (by simp; exact hR1); simp only [List.length_replicate] at HX hb1 ⊢; clear e0 e1 e2 e3 e4; go_wp2_with (fail)
 go_loopw [11] (fun a W => ∃ (i : Nat) (xs : List (List Bool)), a = .int .i64 i ∧ i ≤ G.rules.length ∧ Aside0 (FW w W G A0 A1 A2 A3 c0 c1 c2 c3 (.slice (some ⟨gb, 0, none⟩) G.rules.length cap) xs) ∧ Aside0 (xs.length = G.rules.length ∧ ∀ j, j < i → xs[j]? = some (List.replicate G.kinds.length false))) (fun a _ => G.rules.length - (intOf a).toNat)
 case atStart => exact ⟨0, _, rfl, Nat.zero_le _, HX, ⟨by simp, fun j hj => absurd hj (by omega)⟩⟩
 case round =>
  clear HX; obtain ⟨i, xs, rfl, hi, HX, HL⟩ := hrel; by_cases hlt : i < G.rules.length
  · have HLT := Aside0.mk hlt
    obtain ⟨e0, e1, e2, e3, e4⟩ := HX.out.chk.cells; go_upto_region 5 with fail
    go_upto_region 6 with (at_make; refine Kd.R_make kB (w0 := wr) wr.heap.size 4 rfl (N := 19) rfl 36 _ _ rfl (G.kinds.length : Int) rfl rfl Try.underlying36 (.bool false) 1 info4 rfl (by decide) (by omega) false (ok := fun _ => True) (okp := fun _ => True) rfl (fun _ hk => hk) trivial (by omega) (by omega) (Below.refl _ _) (Nat.le_refl _) ?_; intro v2 W2 h2 hB2 hg2 hb2; have HX2 := Aside0.mk (HX.out.put hB2 (show kB.R 4 W2 wr.heap.size (fun _ => True) v2 (List.replicate G.kinds.length false) by simpa using h2) HLT.out); obtain ⟨A2, k2, rfl⟩ := Kd.R_slice h2; simp only [Int.toNat_natCast, List.length_replicate] at HX2; obtain ⟨A4, k4, _, hcl, hfz, _, _⟩ := rows_at (Kd.S_below HX.out.rows hB2) HLT.out; clear h2 hB2 hg2 hb2)
    go_wp2_with (fail)
    exact ⟨⟨i + 1, _, by go_num, HLT.out, HX2, ⟨by simp [HL.out.1], fun j hj => by
     have := HL.out.1; have := HLT.out; rw [List.getElem?_set]; by_cases e : i = j
     · subst e; simp; omega
     · rw [if_neg e]; exact HL.out.2 j (by omega)⟩⟩, by have := HLT.out; simp [intOf]; omega⟩
  · obtain rfl : i = G.rules.length := by omega
    have HE := Aside0.mk (freshL_end HL.out.1 HL.out.2); have HXE := Aside0.mk (show FW w wr G A0 A1 A2 A3 c0 c1 c2 c3 (.slice (some ⟨gb, 0, none⟩) G.rules.length cap) (freshL G.rules.length G.kinds.length) by rw [← HE.out]; exact HX.out); clear HX HL HE; go_wp2_with (fail)
    go_ret
    exact ⟨_, rfl, HXE.out.rows, HXE.out.chk.fr⟩
def rowF (K : Nat) (N : List Bool) (F : List (List Bool)) : List Bool → List Int → List Bool × Bool
 | out, [] => (out, true)
 | out, x :: l => if x < K then (out.set x.toNat true, false) else if rdOf false N (x - K) = true then rowF K N F (joinL out (rd_L7 F (x - K)) (rd_L7 F (x - K)).length) l else (joinL out (rd_L7 F (x - K)) (rd_L7 F (x - K)).length, false)
theorem isRule_calls (w : World) (G : Gr) (A0 A1 A2 A3 : Option Addr) (c0 c1 c2 c3 : Nat) (h : GAt w G A0 A1 A2 A3 c0 c1 c2 c3) (hK : G.kinds.length ≤ 1024) (x : Int) (h1 : 1 ≤ x) (h2 : x ≤ 1000000) :
 Calls Try.prog 38 #[.agg #[.slice A0 G.kinds.length c0, .slice A1 G.precs.length c1, .slice A2 G.rules.length c2, .slice A3 G.prods.length c3, .int .i64 G.start], .int .i64 x] w fun e w' =>
  e = .returned (.int .i64 (if x < G.kinds.length then -1 else x - G.kinds.length)) ∧ Fr (fun _ => False) w w' :=
 (gram_isRule.calls A0 c0 G.kinds A1 c1 G.precs A2 c2 G.rules A3 c3 G.prods G.start x _ w h.kinds h.l0 h.precs h.l1 h.rules h.l2 h.prods h.l3 (isRule_f _ _ _ _ _ x hK h1 h2)).mono fun _ _ h => ⟨h.1, Fr.of_below h.2⟩
structure KAt (w : World) (p : Nat) (G : Gr) (A0 A1 A2 A3 NA FA : Option Addr) (c0 c1 c2 c3 nc fc : Nat) (N : List Bool) (F : List (List Bool)) : Prop where
 box : w.heap[p]? = some (.cells #[.slice A0 G.kinds.length c0, .slice A1 G.precs.length c1, .slice A2 G.rules.length c2, .slice A3 G.prods.length c3, .int .i64 G.start, .slice NA N.length nc, .slice FA F.length fc] 79 (0, 0))
 g : GAt w G A0 A1 A2 A3 c0 c1 c2 c3
 null : kB.C w NA N.length N
 first : Kd.C kR w FA F.length F
 nl : N.length = G.rules.length
 fl : F.length = G.rules.length
 fk : ∀ i : Nat, i < G.rules.length → (rd_L7 F i).length = G.kinds.length
theorem KAt.go {w w1 : World} {p : Nat} {G : Gr} {A0 A1 A2 A3 NA FA : Option Addr} {c0 c1 c2 c3 nc fc : Nat} {N : List Bool} {F : List (List Bool)} (h : KAt w p G A0 A1 A2 A3 NA FA c0 c1 c2 c3 nc fc N F) (hF : Fr (fun _ => False) w w1) : KAt w1 p G A0 A1 A2 A3 NA FA c0 c1 c2 c3 nc fc N F :=
 ⟨hF.blk h.box id, h.g.go hF, Kd.C_below h.null hF.to_below, Kd.C_below h.first hF.to_below, h.nl, h.fl, h.fk⟩
theorem KAt.cells {w : World} {p : Nat} {G : Gr} {A0 A1 A2 A3 NA FA : Option Addr} {c0 c1 c2 c3 nc fc : Nat} {N : List Bool} {F : List (List Bool)} (h : KAt w p G A0 A1 A2 A3 NA FA c0 c1 c2 c3 nc fc N F) :
 w.cell? ⟨p, 0, none⟩ = some (.slice A0 G.kinds.length c0) ∧ w.cell? ⟨p, 1, none⟩ = some (.slice A1 G.precs.length c1) ∧ w.cell? ⟨p, 2, none⟩ = some (.slice A2 G.rules.length c2) ∧ w.cell? ⟨p, 3, none⟩ = some (.slice A3 G.prods.length c3) ∧ w.cell? ⟨p, 4, none⟩ = some (.int .i64 G.start) ∧
 w.cell? ⟨p, 5, none⟩ = some (.slice NA N.length nc) ∧ w.cell? ⟨p, 6, none⟩ = some (.slice FA F.length fc) :=
 ⟨(blk_cell h.box 0).trans rfl, (blk_cell h.box 1).trans rfl, (blk_cell h.box 2).trans rfl, (blk_cell h.box 3).trans rfl, (blk_cell h.box 4).trans rfl, (blk_cell h.box 5).trans rfl, (blk_cell h.box 6).trans rfl⟩
structure OW (w W : World) (v : Value) (out : List Bool) : Prop where
 fr : Fr (fun _ => False) w W
 row : kB.R 4 W w.heap.size (fun _ => True) v out
theorem OW.go {w W W1 : World} {v : Value} {out : List Bool} (h : OW w W v out) (hF : Fr (fun _ => False) W W1) : OW w W1 v out := ⟨h.fr.trans hF (fun _ _ => id), hF.R h.row (fun _ _ => id)⟩
set_option maxHeartbeats 4000000 in
set_option maxRecDepth 100000 in
theorem row_calls (w : World) (p : Nat) (G : Gr) (A0 A1 A2 A3 NA FA RA : Option Addr) (c0 c1 c2 c3 nc fc rc : Nat) (N : List Bool) (F : List (List Bool)) (row : List Int) (h : KAt w p G A0 A1 A2 A3 NA FA c0 c1 c2 c3 nc fc N F) (hK1 : 1 ≤ G.kinds.length) (hK : G.kinds.length ≤ 1024) (hR : G.rules.length ≤ 2048) (hr : kI.C w RA row.length row) (hrow : RowOk G.kinds.length G.rules.length row) :
 Calls Try.prog 28 #[.pointer (some ⟨p, 0, none⟩), .slice RA row.length rc] w fun e w' =>
  ∃ v, e = .returned (.tuple #[v, .bool (rowF G.kinds.length N F (List.replicate G.kinds.length false) row).2]) ∧ kB.R 4 w' w.heap.size (fun _ => True) v (rowF G.kinds.length N F (List.replicate G.kinds.length false) row).1 ∧ Fr (fun _ => False) w w' := by
 have hu := Try.underlying26; have hu2 := Try.underlying79; have hm := Kd.C_max hr; have HA := Aside0.mk h; have HR := Aside0.mk hr; have HRO := Aside0.mk hrow; obtain ⟨e0, e1, e2, e3, e4, e5, e6⟩ := h.cells; clear h hr hrow; go_enter Try.func28, Try.ntmps28
 go_upto_region 2 with (at_make; refine Kd.R_make kB (w0 := w) w.heap.size 4 rfl (N := 16) rfl 36 _ _ rfl (G.kinds.length : Int) rfl rfl Try.underlying36 (.bool false) 1 info4 rfl (by decide) (by omega) false (ok := fun _ => True) (okp := fun _ => True) rfl (fun _ hk => hk) trivial (by omega) (by omega) (Below.refl _ _) (Nat.le_refl _) ?_; intro v1 W1 h1 hB1 hg1 hb1; have HX := Aside0.mk (show OW w W1 v1 (List.replicate G.kinds.length false) from ⟨Fr.of_below hB1, by simpa using h1⟩); clear h1 hB1 hg1)
 obtain ⟨gb, cap, rfl⟩ := marks_form HX.out.row (by simp; exact hK1); simp only [List.length_replicate] at HX hb1 ⊢; clear e0 e1 e2 e3 e4 e5 e6; go_wp2_with (fail)
 go_loopw [19] (fun a W => ∃ (i : Nat) (out : List Bool), a = .int .i64 i ∧ i ≤ row.length ∧ out.length = G.kinds.length ∧ Aside0 (OW w W (.slice (some ⟨gb, 0, none⟩) G.kinds.length cap) out) ∧ Aside0 (rowF G.kinds.length N F (List.replicate G.kinds.length false) row = rowF G.kinds.length N F out (row.drop i))) (fun a _ => row.length - (intOf a).toNat)
 case atStart => exact ⟨0, _, rfl, Nat.zero_le _, by simp, HX, ⟨rfl⟩⟩
 case round =>
  clear HX; obtain ⟨i, out, rfl, hi, hol, HX, HE⟩ := hrel; have HOL := Aside0.mk hol; clear hol; by_cases hlt : i < row.length
  · have HLT := Aside0.mk hlt
    obtain ⟨ad, rfl, hx⟩ := Kd.at_int HR.out (i : Int) (by omega) (by omega); simp only [Int.toNat_natCast] at hx; have y := HX.out.fr.cell hx id; have hro := HRO.out i hlt; have HK0 := Aside0.mk (HA.out.go HX.out.fr); obtain ⟨e0, e1, e2, e3, e4, e5, e6⟩ := HK0.out.cells; have HD := Aside0.mk (drop_rd hlt); clear hx; generalize rd row (i : Int) = x at y hro HD; go_wp2_with (fail)
    refine (isRule_calls wr G A0 A1 A2 A3 c0 c1 c2 c3 HK0.out.g hK x hro.1 (by omega)).mono ?_; rintro e W2 ⟨rfl, hF2⟩; have HX2 := Aside0.mk (HX.out.go hF2); have HK2 := Aside0.mk (HK0.out.go hF2); clear HX HK0 y hF2 e0 e1 e2 e3 e4 e5 e6; obtain ⟨e0, e1, e2, e3, e4, e5, e6⟩ := HK2.out.cells; obtain ⟨Am, cm, em, hcm, hCm⟩ := Kd.R_reads HX2.out.row; injection em with em1 em2 em3
    subst em1; by_cases hxk : x < G.kinds.length
    · rw [if_pos hxk]
      have hx0 : 0 ≤ x := by omega
      have hxl : x < (G.kinds.length : Nat) := hxk; obtain ⟨adm, ea, hxm⟩ := Kd.at_bool hCm x hx0 (by rw [HOL.out]; exact hxl); injection ea with ea
      subst ea; rw [add_plain] at hxm; obtain ⟨_, _, _, q, _, cells, hcells⟩ := (Kd.R_bound HX2.out.row).1 gb rfl; have hfz := blk_frozen hcells x.toNat; have hgb := Kd.R_base HX2.out.row gb rfl; have hput := HX2.out.row; rw [← HOL.out] at hput; obtain ⟨hp1, hp2⟩ := Kd.R_put hput x true; rw [HOL.out] at hp1; have HP := Aside0.mk hp1; have HF2 := Aside0.mk (HX2.out.fr.grown hp2 (fun k hk hlt => by injection hk with hk; omega)); have HE2 := Aside0.mk (show rowF G.kinds.length N F (List.replicate G.kinds.length false) row = (out.set x.toNat true, false) by rw [HE.out, HD.out]; simp only [rowF, if_pos hxk]); clear hput hp1 hp2 hcells hCm hcm em2 em3; go_wp2_with (fail)
      go_ret2
      exact ⟨_, (by rw [HE2.out]; rfl), by rw [HE2.out]; exact HP.out, HF2.out⟩
    · rw [if_neg hxk]
      clear hCm hcm em2 em3; have ha0 : 0 ≤ x - G.kinds.length := by omega
      have ha1 : x - G.kinds.length < (G.rules.length : Nat) := by omega
      have hge : ¬ (x - (G.kinds.length : Int) < 0) := by omega
      have HAN := Aside0.mk (show x - (G.kinds.length : Int) = (((x - (G.kinds.length : Int)).toNat : Nat) : Int) by omega); have hfk := HK2.out.fk (x - (G.kinds.length : Int)).toNat (by omega); rw [← HAN.out] at hfk; obtain ⟨adf, Af, cf, rfl, hxf, hcf, hCf⟩ := at_L7 HA.out.first (x - G.kinds.length) ha0 (by rw [HK2.out.fl]; exact ha1)
      have hxf := HX2.out.fr.cell hxf id; obtain ⟨adn, rfl, hxn⟩ := Kd.at_bool HK2.out.null (x - G.kinds.length) ha0 (by rw [HK2.out.nl]; exact ha1); have HFK := Aside0.mk hfk; have HCF := Aside0.mk hCf; have HFN := Aside0.mk (show rowF G.kinds.length N F (List.replicate G.kinds.length false) row = if rdOf false N (x - G.kinds.length) = true then rowF G.kinds.length N F (joinL out (rd_L7 F (x - G.kinds.length)) (rd_L7 F (x - G.kinds.length)).length) (row.drop (i + 1)) else (joinL out (rd_L7 F (x - G.kinds.length)) (rd_L7 F (x - G.kinds.length)).length, false) by rw [HE.out, HD.out]; simp only [rowF, if_neg hxk]); have hfl := HK2.out.fl; have hnl := HK2.out.nl; rw [hfl] at e6; rw [hnl] at e5; clear hCf hfk hfl hnl hxk; generalize x - (G.kinds.length : Int) = a at ha0 ha1 hge hxf hxn HFK HCF HFN; have hgb := Kd.R_base HX2.out.row gb rfl; have HNE := Aside0.mk (show ∀ ad, Af = some ad → 0 < (rd_L7 F a).length → ad.block ≠ gb from fun ad e hp => by
       obtain ⟨ad2, e2, hc2⟩ := Kd.at_bool HCF.out 0 (by omega) (by omega); rw [e] at e2; injection e2 with e2
       subst e2; have := World.block_lt_of_cell? _ _ hc2; rw [Fr.add_block] at this; omega)
      have hgw := Aside0.mk hgb; clear hgb; go_wp2_with (fail)
      have hrow2 := HX2.out.row; rw [← HOL.out] at hrow2; have hj := join_calls W2 w.heap.size gb cap (fun _ => True) out (rd_L7 F a) Af cf hrow2 (Kd.C_below HCF.out HX2.out.fr.to_below) HNE.out (by rw [HFK.out, HOL.out]; exact Nat.le_refl _); rw [HOL.out] at hj; refine hj.mono ?_; rintro e W3 ⟨rfl, hR3, hF3⟩; have HX3 := Aside0.mk (show OW w W3 (.slice (some ⟨gb, 0, none⟩) G.kinds.length cap) (joinL out (rd_L7 F a) (rd_L7 F a).length) from ⟨HX2.out.fr.trans hF3 (fun k hk e => by have := hgw.out; omega), hR3⟩); have HK3 := Aside0.mk (HA.out.go HX3.out.fr); have HOL3 := Aside0.mk (show (joinL out (rd_L7 F a) (rd_L7 F a).length).length = G.kinds.length by rw [joinL_length]; exact HOL.out); obtain ⟨adn2, ean, hxn2⟩ := Kd.at_bool HK3.out.null a ha0 (by rw [HK3.out.nl]; exact ha1); injection ean with ean
      subst ean; clear HX2 HK2 hrow2 hj hR3 hF3 e0 e1 e2 e3 e4 e5 e6 hxn hxf hcf; obtain ⟨e0, e1, e2, e3, e4, e5, e6⟩ := HK3.out.cells; have hfl := HK3.out.fl; have hnl := HK3.out.nl; rw [hfl] at e6; rw [hnl] at e5; clear hfl hnl; cases hb : rdOf false N a with
      | true =>
       rw [hb] at hxn2; have HE3 := Aside0.mk (show rowF G.kinds.length N F (List.replicate G.kinds.length false) row = rowF G.kinds.length N F (joinL out (rd_L7 F a) (rd_L7 F a).length) (row.drop (i + 1)) by rw [HFN.out, if_pos hb]); go_wp2_with (fail)
       exact ⟨⟨i + 1, _, by go_num, HLT.out, HOL3.out, HX3, HE3⟩, by have := HLT.out; simp [intOf]; omega⟩
      | false =>
       rw [hb] at hxn2; have HE2 := Aside0.mk (show rowF G.kinds.length N F (List.replicate G.kinds.length false) row = (joinL out (rd_L7 F a) (rd_L7 F a).length, false) by rw [HFN.out, if_neg (by rw [hb]; decide)]); go_wp2_with (fail)
       go_ret2
       exact ⟨_, (by rw [HE2.out]; rfl), by rw [HE2.out]; exact HX3.out.row, HX3.out.fr⟩
  · obtain rfl : i = row.length := by omega
    have HE2 := Aside0.mk (show rowF G.kinds.length N F (List.replicate G.kinds.length false) row = (out, true) by rw [HE.out, List.drop_length]; rfl); go_wp2_with (fail)
    go_ret2
    exact ⟨_, (by rw [HE2.out]; rfl), by rw [HE2.out]; exact HX.out.row, HX.out.fr⟩
inductive Fst (G : Gr) : List Int → Nat → Prop where
 | kind (x : Int) (l : List Int) : x < G.kinds.length → Fst G (x :: l) x.toNat
 | rule (x : Int) (l : List Int) (i t : Nat) : ¬ x < G.kinds.length → i < G.prods.length → (rd_T57 G.prods i).f0 = x - G.kinds.length → Fst G (rd_T57 G.prods i).f1 t → Fst G (x :: l) t
 | skip (x : Int) (l : List Int) (t : Nat) : ¬ x < G.kinds.length → Der G false (x - G.kinds.length).toNat → Fst G l t → Fst G (x :: l) t
def FstR (G : Gr) (a t : Nat) : Prop := ∃ i, i < G.prods.length ∧ (rd_T57 G.prods i).f0 = a ∧ Fst G (rd_T57 G.prods i).f1 t
structure Sized (G : Gr) (F : List (List Bool)) : Prop where
 fl : F.length = G.rules.length
 fk : ∀ i : Nat, i < G.rules.length → (rd_L7 F i).length = G.kinds.length
def begB (K : Nat) (N : List Bool) (F : List (List Bool)) : List Int → Nat → Bool
 | [], _ => false
 | x :: l, t => if x < K then t == x.toNat else (rdOf false (rd_L7 F (x - K)) (t : Int) || (rdOf false N (x - K) && begB K N F l t))
def empB (K : Nat) (N : List Bool) : List Int → Bool
 | [] => true
 | x :: l => if x < K then false else (rdOf false N (x - K) && empB K N l)
def SymsOk (G : Gr) (l : List Int) : Prop := ∀ x, x ∈ l → 1 ≤ x ∧ x < G.kinds.length + G.rules.length
theorem RowOk.syms {G : Gr} {l : List Int} (h : RowOk G.kinds.length G.rules.length l) : SymsOk G l := fun x hx => by
 obtain ⟨j, hj, rfl⟩ := mem_rd hx; exact h j hj
theorem rowF_spec {G : Gr} {N : List Bool} {F : List (List Bool)} (hF : Sized G F) : ∀ (l : List Int) (out : List Bool), SymsOk G l → out.length = G.kinds.length →
 (rowF G.kinds.length N F out l).1.length = G.kinds.length ∧ (rowF G.kinds.length N F out l).2 = empB G.kinds.length N l ∧ ∀ t : Nat, rdOf false (rowF G.kinds.length N F out l).1 (t : Int) = (rdOf false out (t : Int) || begB G.kinds.length N F l t)
 | [], out, _, ho => ⟨ho, rfl, fun t => by simp [rowF, begB]⟩
 | x :: l, out, hs, ho => by
  have hx := hs x List.mem_cons_self; by_cases hk : x < G.kinds.length
  · simp only [rowF, begB, empB, if_pos hk]
    refine ⟨by rw [List.length_set]; exact ho, trivial, fun t => ?_⟩; rw [rdOf_set (by omega)]; by_cases e : t = x.toNat
    · rw [if_pos e]; simp [e]
    · rw [if_neg e]; simp [e]
  · have hfk := hF.fk (x - (G.kinds.length : Int)).toNat (by omega)
    rw [Int.toNat_of_nonneg (by omega)] at hfk; have hj : (joinL out (rd_L7 F (x - G.kinds.length)) (rd_L7 F (x - G.kinds.length)).length).length = G.kinds.length := by rw [joinL_length]; exact ho
    have hat : ∀ t : Nat, rdOf false (joinL out (rd_L7 F (x - G.kinds.length)) (rd_L7 F (x - G.kinds.length)).length) (t : Int) = (rdOf false out (t : Int) || rdOf false (rd_L7 F (x - G.kinds.length)) (t : Int)) := fun t => by
     rw [joinL_at _ _ (by omega) _ (Nat.le_refl _)]; by_cases ht : t < (rd_L7 F (x - G.kinds.length)).length
     · simp [ht]
     · simp [ht, rdOf, List.getD_eq_getElem?_getD]
    simp only [rowF, begB, empB, if_neg hk]; by_cases hn : rdOf false N (x - G.kinds.length) = true
    · rw [if_pos hn]
      obtain ⟨h1, h2, h3⟩ := rowF_spec hF l _ (fun y hy => hs y (List.mem_cons_of_mem _ hy)) hj; refine ⟨h1, by rw [h2, hn]; simp, fun t => ?_⟩; rw [h3, hat, hn, Bool.true_and, Bool.or_assoc]
    · rw [if_neg hn]
      refine ⟨hj, by simp [hn], fun t => ?_⟩; rw [hat]; simp [hn]
def Sound (G : Gr) (F : List (List Bool)) : Prop := ∀ a t : Nat, rdOf false (rd_L7 F a) (t : Int) = true → FstR G a t
def ClosedAt (G : Gr) (F : List (List Bool)) (i : Nat) : Prop := ∀ t : Nat, begB G.kinds.length (closedL G false) F (rd_T57 G.prods i).f1 t = true → rdOf false (rd_L7 F (rd_T57 G.prods i).f0) (t : Int) = true
theorem null_at {G : Gr} {x : Int} (h1 : ¬ x < G.kinds.length) (h2 : x < G.kinds.length + G.rules.length) : rdOf false (closedL G false) (x - G.kinds.length) = true ↔ Der G false (x - G.kinds.length).toNat := by
 have := closedL_at (G := G) (kinds := false) (a := (x - (G.kinds.length : Int)).toNat) (by omega); rwa [Int.toNat_of_nonneg (by omega)] at this
theorem beg_sound {G : Gr} {F : List (List Bool)} (hS : Sound G F) : ∀ (l : List Int) (t : Nat), SymsOk G l → begB G.kinds.length (closedL G false) F l t = true → Fst G l t
 | [], t, _, h => by simp [begB] at h
 | x :: l, t, hs, h => by
  have hx := hs x List.mem_cons_self; by_cases hk : x < G.kinds.length
  · simp only [begB, if_pos hk, beq_iff_eq] at h
    subst h; exact .kind x l hk
  · simp only [begB, if_neg hk, Bool.or_eq_true, Bool.and_eq_true] at h
    rcases h with h | ⟨hn, h⟩
    · have e : x - (G.kinds.length : Int) = (((x - (G.kinds.length : Int)).toNat : Nat) : Int) := by omega
      rw [e] at h; obtain ⟨i, hi, e2, hf⟩ := hS _ t h; exact .rule x l i t hk hi (by rw [e2]; omega) hf
    · exact .skip x l t hk ((null_at hk hx.2).1 hn) (beg_sound hS l t (fun y hy => hs y (List.mem_cons_of_mem _ hy)) h)
theorem beg_done {G : Gr} {F : List (List Bool)} (hP : ProdsOk G) (hC : ∀ i, i < G.prods.length → ClosedAt G F i) {l : List Int} {t : Nat} (h : Fst G l t) (hs : SymsOk G l) : begB G.kinds.length (closedL G false) F l t = true := by
 induction h with
 | kind x l hk => simp [begB, hk]
 | rule x l i t hk hi e hf ih =>
  have hx := hs x List.mem_cons_self; have h1 := hC i hi t (ih (hP i hi).2.2.2.syms); rw [e] at h1; simp [begB, hk, h1]
 | skip x l t hk hd hf ih =>
  have hx := hs x List.mem_cons_self; simp [begB, hk, (null_at hk hx.2).2 hd, ih (fun y hy => hs y (List.mem_cons_of_mem _ hy))]
open Classical in
noncomputable def firstL (G : Gr) : List (List Bool) := (List.range G.rules.length).map fun a => (List.range G.kinds.length).map fun t => decide (FstR G a t)
theorem first_at {G : Gr} {a t : Nat} (ha : a < G.rules.length) (ht : t < G.kinds.length) : rdOf false (rd_L7 (firstL G) a) (t : Int) = true ↔ FstR G a t := by
 simp [firstL, rdOf, rd_L7, List.getD_eq_getElem?_getD, ha, ht]
theorem firstL_sized (G : Gr) : Sized G (firstL G) := ⟨by simp [firstL], fun i hi => by simp [firstL, rd_L7, List.getD_eq_getElem?_getD, hi]⟩
theorem first_eq {G : Gr} {F : List (List Bool)} (hP : ProdsOk G) (hF : Sized G F) (hS : Sound G F) (hC : ∀ i, i < G.prods.length → ClosedAt G F i) : F = firstL G := by
 apply List.ext_getElem (by rw [hF.fl, (firstL_sized G).fl])
 intro a h1 h2; have ha : a < G.rules.length := by rw [← hF.fl]; exact h1
 have e1 : rd_L7 F a = F[a] := by simp [rd_L7, List.getD_eq_getElem?_getD, h1]
 have e2 : rd_L7 (firstL G) a = (firstL G)[a] := by simp [rd_L7, List.getD_eq_getElem?_getD, h2]
 have l1 := hF.fk a ha; have l2 := (firstL_sized G).fk a ha; rw [← e1, ← e2]; apply List.ext_getElem (by rw [l1, l2])
 intro t h3 h4; have ht : t < G.kinds.length := by omega
 have e3 : rdOf false (rd_L7 F a) (t : Int) = (rd_L7 F a)[t] := by simp [rdOf, List.getD_eq_getElem?_getD, h3]
 have e4 : rdOf false (rd_L7 (firstL G) a) (t : Int) = (rd_L7 (firstL G) a)[t] := by simp [rdOf, List.getD_eq_getElem?_getD, h4]
 rw [← e3, ← e4]; have h5 := first_at ha ht; have h6 : rdOf false (rd_L7 F a) (t : Int) = true ↔ FstR G a t := ⟨hS a t, fun ⟨i, hi, e, hf⟩ => by
  have := hC i hi t (beg_done hP hC hf (hP i hi).2.2.2.syms); rwa [e] at this⟩
 cases ha1 : rdOf false (rd_L7 F a) (t : Int) <;> cases ha2 : rdOf false (rd_L7 (firstL G) a) (t : Int) <;> simp_all
theorem set_falses {l : List Bool} {k : Nat} (hk : k < l.length) (h : rdOf false l (k : Int) = false) : (l.set k true).count false + 1 = l.count false := by
 have e : l[k] = false := by simpa [rdOf, List.getD_eq_getElem?_getD, hk] using h
 have hp : 0 < l.count false := List.count_pos_iff.2 (e ▸ List.getElem_mem hk); rw [List.count_set hk, e]; simp
 omega
theorem join_falses (l f : List Bool) (hl : f.length ≤ l.length) : ∀ k, k ≤ f.length → (joinL l f k).count false + (if someL l f k = true then 1 else 0) ≤ l.count false ∧ (someL l f k = false → joinL l f k = l)
 | 0, _ => by simp [joinL, someL]
 | k + 1, hk => by
  obtain ⟨h1, h2⟩ := join_falses l f hl k (by omega); have hat : rdOf false (joinL l f k) (k : Int) = rdOf false l (k : Int) := by rw [joinL_at l f hl k (by omega)]; simp
  have hlen : k < (joinL l f k).length := by rw [joinL_length]; omega
  by_cases hf : rdOf false f (k : Int) = true
  · by_cases hlk : rdOf false l (k : Int) = true
    · have h3 := joinL_same (l := l) (f := f) (k := k) (by omega) (by rw [hat, hlk])
      have e1 : joinL l f (k + 1) = joinL l f k := by simp only [joinL, if_pos hf, h3]
      have e2 : someL l f (k + 1) = someL l f k := by simp [someL, hlk]
      rw [e1, e2]; exact ⟨h1, h2⟩
    · have hlk2 : rdOf false l (k : Int) = false := by simpa using hlk
      have h3 := set_falses hlen (by rw [hat, hlk2]); have e1 : joinL l f (k + 1) = (joinL l f k).set k true := by simp only [joinL, if_pos hf]
      have e2 : someL l f (k + 1) = true := by simp [someL, hf, hlk2]
      rw [e1, e2]; refine ⟨?_, fun h => by cases h⟩; rw [if_pos rfl]; split at h1 <;> omega
  · have e1 : joinL l f (k + 1) = joinL l f k := by simp only [joinL, if_neg hf]
    have e2 : someL l f (k + 1) = someL l f k := by simp [someL, hf]
    rw [e1, e2]; exact ⟨h1, h2⟩
theorem join_none {l f : List Bool} (hl : f.length ≤ l.length) (h : someL l f f.length = false) (t : Nat) (ht : rdOf false f (t : Int) = true) : rdOf false l (t : Int) = true := by
 have h2 := (join_falses l f hl f.length (Nat.le_refl _)).2 h; have h3 := joinL_at l f hl f.length (Nat.le_refl _) t; rw [h2, ht] at h3; by_cases hlt : t < f.length
 · simpa [hlt] using h3
 · simp [rdOf, List.getD_eq_getElem?_getD, List.getElem?_eq_none (Nat.le_of_not_lt hlt)] at ht
def falses (F : List (List Bool)) : Nat := (F.map (·.count false)).sum
theorem falses_set : ∀ (F : List (List Bool)) (a : Nat) (r : List Bool) (d : Nat), a < F.length → r.count false + d ≤ (F.getD a []).count false → falses (F.set a r) + d ≤ falses F
 | [], a, _, _, h, _ => by simp at h
 | x :: F, 0, r, d, _, h => by simp [falses] at h ⊢; omega
 | x :: F, a + 1, r, d, h, h2 => by
  have := falses_set F a r d (by simpa using h) (by simpa using h2); simp [falses] at this ⊢
  omega
theorem falses_fresh (R K : Nat) : falses (freshL R K) = R * K := by simp [falses, freshL]
theorem fresh_sized (G : Gr) : Sized G (freshL G.rules.length G.kinds.length) := ⟨by simp [freshL], fun i hi => by simp [freshL, rd_L7, List.getD_eq_getElem?_getD, hi]⟩
theorem fresh_sound (G : Gr) : Sound G (freshL G.rules.length G.kinds.length) := fun a t h => by
 exfalso
 simp only [rdOf, rd_L7, freshL, Int.toNat_natCast, List.getD_eq_getElem?_getD, List.getElem?_replicate] at h; by_cases ha : a < G.rules.length
 · simp only [if_pos ha, Option.getD_some, List.getElem?_replicate] at h
   split at h <;> simp at h
 · simp [if_neg ha] at h
theorem rd_set {F : List (List Bool)} {a : Nat} (ha : a < F.length) (r : List Bool) (b : Nat) : rd_L7 (F.set a r) (b : Int) = if b = a then r else rd_L7 F b := by
 simp only [rd_L7, Int.toNat_natCast, List.getD_eq_getElem?_getD, List.getElem?_set]; by_cases e : a = b
 · subst e; simp [ha]
 · rw [if_neg e, if_neg (fun h => e h.symm)]
theorem Sized.set {G : Gr} {F : List (List Bool)} (h : Sized G F) {a : Nat} {r : List Bool} (ha : a < G.rules.length) (hr : r.length = G.kinds.length) : Sized G (F.set a r) :=
 ⟨by rw [List.length_set]; exact h.fl, fun i hi => by
  rw [rd_set (by rw [h.fl]; exact ha)]; split
  · exact hr
  · exact h.fk i hi⟩
theorem Sound.next {G : Gr} {F : List (List Bool)} (h : Sound G F) (hF : Sized G F) (hP : ProdsOk G) {i : Nat} (hi : i < G.prods.length) :
 Sound G (F.set (rd_T57 G.prods i).f0.toNat (joinL (rd_L7 F (rd_T57 G.prods i).f0) (rowF G.kinds.length (closedL G false) F (List.replicate G.kinds.length false) (rd_T57 G.prods i).f1).1 G.kinds.length)) := by
 have hp := hP i hi; obtain ⟨h1, _, h3⟩ := rowF_spec (N := closedL G false) hF _ (List.replicate G.kinds.length false) hp.2.2.2.syms (by simp); have e : (rd_T57 G.prods i).f0 = (((rd_T57 G.prods i).f0.toNat : Nat) : Int) := by omega
 have hfk := hF.fk (rd_T57 G.prods i).f0.toNat (by omega); rw [← e] at hfk; intro a t ht; rw [rd_set (by rw [hF.fl]; omega)] at ht; split at ht
 · rename_i ea
   rw [joinL_at _ _ (by omega) _ (by omega), h3] at ht; have e0 : rdOf false (List.replicate G.kinds.length false) (t : Int) = false := by
    simp only [rdOf, Int.toNat_natCast, List.getD_eq_getElem?_getD, List.getElem?_replicate]; split <;> rfl
   rw [e0, Bool.false_or, Bool.or_eq_true, Bool.and_eq_true] at ht; rcases ht with ht | ⟨_, ht⟩
   · refine h a t ?_
     rw [ea, ← e]; exact ht
   · exact ⟨i, hi, by omega, beg_sound h _ t hp.2.2.2.syms ht⟩
 · exact h a t ht
inductive Rch (G : Gr) (may : Nat → Bool) : Nat → Prop
 | start : Rch G may G.start.toNat
 | next {a i : Nat} {x : Int} : Rch G may a → i < G.prods.length → (rd_T57 G.prods i).f0 = a → may i = true → x ∈ (rd_T57 G.prods i).f1 → G.kinds.length ≤ x → Rch G may (x - G.kinds.length).toNat
def Marked (G : Gr) (marks : List Bool) (x : Int) : Prop := G.kinds.length ≤ x → rdOf false marks (x - G.kinds.length) = true
def Did (G : Gr) (may : Nat → Bool) (marks : List Bool) (a : Int) (j : Nat) : Prop := (rd_T57 G.prods j).f0 = a → may j = true → ∀ x, x ∈ (rd_T57 G.prods j).f1 → Marked G marks x
structure RcSt (G : Gr) (may : Nat → Bool) (marks : List Bool) (l : List Int) : Prop where
 len : marks.length = G.rules.length
 snd : ∀ a : Nat, rdOf false marks (a : Int) = true → Rch G may a
 que : ∀ b, b ∈ l → 0 ≤ b ∧ b < G.rules.length ∧ rdOf false marks b = true
 cls : ∀ a : Nat, rdOf false marks (a : Int) = true → (a : Int) ∈ l ∨ ∀ j, j < G.prods.length → Did G may marks a j
 start : rdOf false marks G.start = true
theorem marked_set {marks : List Bool} {b : Nat} {x : Int} (h : rdOf false marks x = true) : rdOf false (marks.set b true) x = true := by
 simp only [rdOf, List.getD_eq_getElem?_getD, List.getElem?_set] at h ⊢; split
 · rename_i e
   split
   · rfl
   · rename_i hn
     rw [List.getElem?_eq_none (by omega)] at h; simp at h
 · exact h
theorem Did.set {G : Gr} {may : Nat → Bool} {marks : List Bool} {a : Int} {j b : Nat} (h : Did G may marks a j) : Did G may (marks.set b true) a j := fun h1 h2 x hx hk => marked_set (h h1 h2 x hx hk)
theorem RcSt.begin {G : Gr} (may : Nat → Bool) (h0 : 0 ≤ G.start) (h1 : G.start < G.rules.length) : RcSt G may ((List.replicate G.rules.length false).set G.start.toNat true) [G.start] ∧ ((List.replicate G.rules.length false).set G.start.toNat true).count false + 1 ≤ G.rules.length := by
 have es : ((G.start.toNat : Nat) : Int) = G.start := by omega
 have hone : ∀ a : Nat, rdOf false ((List.replicate G.rules.length false).set G.start.toNat true) (a : Int) = true → a = G.start.toNat := fun a ha => by
  rw [rdOf_set (by simp; omega)] at ha; split at ha
  · assumption
  · simp only [rdOf, List.getD_eq_getElem?_getD, List.getElem?_replicate] at ha
    split at ha <;> simp at ha
 have hst : rdOf false ((List.replicate G.rules.length false).set G.start.toNat true) G.start = true := by
  have := rdOf_set (l := List.replicate G.rules.length false) (i := G.start.toNat) (by simp; omega) G.start.toNat; rw [es, if_pos rfl] at this; exact this
 refine ⟨⟨by simp, fun a ha => ?_, fun b hb => ?_, fun a ha => ?_, hst⟩, ?_⟩
 · rw [hone a ha]; exact .start
 · simp only [List.mem_singleton] at hb
   subst hb; exact ⟨h0, h1, hst⟩
 · left
   rw [hone a ha, es]; exact List.mem_singleton.2 rfl
 · have := set_falses (l := List.replicate G.rules.length false) (k := G.start.toNat) (by simp; omega) (by rw [es]; simp only [rdOf, List.getD_eq_getElem?_getD, List.getElem?_replicate]; split <;> rfl)
   rw [this]; simp
theorem RcSt.push {G : Gr} {may : Nat → Bool} {marks : List Bool} {l : List Int} (h : RcSt G may marks l) {b : Int} (h0 : 0 ≤ b) (h1 : b < G.rules.length) (hr : Rch G may b.toNat) (hn : rdOf false marks b = false) :
 RcSt G may (marks.set b.toNat true) (l ++ [b]) ∧ (marks.set b.toNat true).count false + (l ++ [b]).length = marks.count false + l.length := by
 have es : ((b.toNat : Nat) : Int) = b := by omega
 have hbl : b.toNat < marks.length := by rw [h.len]; omega
 have hst : rdOf false (marks.set b.toNat true) b = true := by
  have := rdOf_set hbl b.toNat; rw [es, if_pos rfl] at this; exact this
 refine ⟨⟨by simp [h.len], fun a ha => ?_, fun c hc => ?_, fun a ha => ?_, marked_set h.start⟩, ?_⟩
 · rw [rdOf_set hbl] at ha
   split at ha
   · rename_i e; rw [e]; exact hr
   · exact h.snd a ha
 · rw [List.mem_append, List.mem_singleton] at hc
   rcases hc with hc | rfl
   · have := h.que c hc
     exact ⟨this.1, this.2.1, marked_set this.2.2⟩
   · exact ⟨h0, h1, hst⟩
 · rw [rdOf_set hbl] at ha
   split at ha
   · rename_i e
     left
     rw [e, es]; simp
   · rcases h.cls a ha with hm | hd
     · exact .inl (List.mem_append_left _ hm)
     · exact .inr fun j hj => (hd j hj).set
 · have := set_falses hbl (by rw [es]; exact hn)
   simp only [List.length_append, List.length_cons, List.length_nil]; omega
theorem RcSt.pop {G : Gr} {may : Nat → Bool} {marks : List Bool} {b : Int} {l : List Int} (h : RcSt G may marks (b :: l)) (hd : ∀ j, j < G.prods.length → Did G may marks b j) : RcSt G may marks l :=
 ⟨h.len, h.snd, fun c hc => h.que c (List.mem_cons_of_mem _ hc), fun a ha => by
  rcases h.cls a ha with hm | hd2
  · rcases List.mem_cons.1 hm with e | hm
    · exact .inr (by rw [e]; exact hd)
    · exact .inl hm
  · exact .inr hd2, h.start⟩
open Classical in
noncomputable def reachL (G : Gr) (may : Nat → Bool) : List Bool := (List.range G.rules.length).map fun a => decide (Rch G may a)
theorem reachL_length (G : Gr) (may : Nat → Bool) : (reachL G may).length = G.rules.length := by simp [reachL]
theorem reachL_at {G : Gr} {may : Nat → Bool} {a : Nat} (h : a < G.rules.length) : rdOf false (reachL G may) a = true ↔ Rch G may a := by
 simp [reachL, rdOf, List.getD_eq_getElem?_getD, h]
theorem RcSt.done {G : Gr} {may : Nat → Bool} {marks : List Bool} (h : RcSt G may marks []) (h0 : 0 ≤ G.start) : marks = reachL G may := by
 have hall : ∀ a : Nat, Rch G may a → rdOf false marks (a : Int) = true := fun a ha => by
  induction ha with
  | start => rw [Int.toNat_of_nonneg h0]; exact h.start
  | @next a i x _ hi hf hm hx hk ih =>
   rcases h.cls a ih with hc | hd
   · cases hc
   · have := hd i hi hf hm x hx hk
     rwa [Int.toNat_of_nonneg (by omega)]
 apply List.ext_getElem (by rw [h.len, reachL_length])
 intro a h1 h2; have e1 : rdOf false marks a = marks[a] := by simp [rdOf, List.getD_eq_getElem?_getD, h1]
 have e2 : rdOf false (reachL G may) a = (reachL G may)[a] := by simp [rdOf, List.getD_eq_getElem?_getD, h2]
 have h3 : rdOf false marks a = true ↔ Rch G may a := ⟨h.snd a, hall a⟩; have h4 := reachL_at (may := may) (G := G) (a := a) (by rw [← h.len]; exact h1); rw [e1] at h3; rw [e2] at h4; cases hm : marks[a] <;> cases hc : (reachL G may)[a] <;> simp_all
theorem CW.fr {w W W1 : World} {G : Gr} {A0 A1 A2 A3 : Option Addr} {c0 c1 c2 c3 : Nat} {v : Value} {marks : List Bool} {S : Nat → Prop} (h : CW w W G A0 A1 A2 A3 c0 c1 c2 c3 v marks) (hF : Fr S W W1) (hS : ∀ k, S k → w.heap.size < k) (hv : ∀ k, v.ownBlock = some k → ¬ S k) : CW w W1 G A0 A1 A2 A3 c0 c1 c2 c3 v marks := by
 refine ⟨⟨hF.blk h.chk.box (fun e => by have := hS _ e; omega), h.chk.fr.trans hF (fun k hk e => by have := hS k e; omega)⟩, ?_⟩; exact Kd.R_mono (hF.R (show kB.R 4 W (w.heap.size + 1) (fun k => v.ownBlock = some k) v marks from Kd.R_of_own (Kd.own_of_R h.row) (fun _ hk => hk)) (fun k hk => hv k hk)) (fun _ _ => trivial)
theorem CW.over {w W W1 : World} {G : Gr} {A0 A1 A2 A3 : Option Addr} {c0 c1 c2 c3 : Nat} {v v2 : Value} {marks : List Bool} {l : List Int} {ok : Nat → Prop} (h : CW w W G A0 A1 A2 A3 c0 c1 c2 c3 v marks) (hq : kI.Q 3 W (w.heap.size + 1) ok v2 l) (hg : W.grownBy W1 v2.ownBlock) : CW w W1 G A0 A1 A2 A3 c0 c1 c2 c3 v marks := by
 refine h.fr (S := fun k => v2.ownBlock = some k) ⟨hg.os, hg.tape, hg.output, hg.size, fun i hi hn => hg.block i hi (fun e => hn e.symm)⟩ (fun k hk => by have := Kd.Q_base hq k hk; omega) (fun k hk e => ?_); obtain ⟨c1, h1⟩ := Kd.Q_typed hq k e; obtain ⟨c2, h2⟩ := Kd.R_typed h.row k hk; rw [h1] at h2; injection h2 with h2
 injection h2 with _ h2
 exact absurd h2 (by decide)
theorem CW.at {w W : World} {G : Gr} {A0 A1 A2 A3 : Option Addr} {c0 c1 c2 c3 gb cap : Nat} {marks : List Bool} (h : CW w W G A0 A1 A2 A3 c0 c1 c2 c3 (.slice (some ⟨gb, 0, none⟩) G.rules.length cap) marks) (hl : marks.length = G.rules.length) {i : Int} (h0 : 0 ≤ i) (h1 : i < G.rules.length) :
 W.cell? ⟨gb, i.toNat, none⟩ = some (.bool (rdOf false marks i)) ∧ W.frozen? ⟨gb, i.toNat, none⟩ = false := by
 obtain ⟨Am, cm, em, hcm, hCm⟩ := Kd.R_reads h.row; injection em with em1 em2 em3
 subst em1; obtain ⟨adm, ea, hxm⟩ := Kd.at_bool hCm i h0 (by omega); injection ea with ea
 subst ea; rw [add_plain] at hxm; obtain ⟨_, _, _, q, _, cells, hcells⟩ := (Kd.R_bound h.row).1 gb rfl; exact ⟨hxm, blk_frozen hcells i.toNat⟩
theorem queue_mark {w W : World} {G : Gr} {A0 A1 A2 A3 : Option Addr} {c0 c1 c2 c3 gb cap : Nat} {marks : List Bool} (h : CW w W G A0 A1 A2 A3 c0 c1 c2 c3 (.slice (some ⟨gb, 0, none⟩) G.rules.length cap) marks) {v2 : Value} {l : List Int} {ok : Nat → Prop} {B : Nat} (hq : kI.Q 3 W B ok v2 l) (i : Nat) (u : Value) : kI.Q 3 (W.setCell ⟨gb, i, none⟩ u) B ok v2 l := by
 obtain ⟨cells, hc⟩ := Kd.R_typed h.row gb rfl; exact Kd.Q_set hq hc (by decide) i u
structure MkS (G : Gr) (marks : List Bool) : Prop where
 len : marks.length = G.rules.length
 snd : ∀ a : Nat, rdOf false marks (a : Int) = true → Der G true a
def MkC (G : Gr) (marks : List Bool) (i : Nat) : Prop := wholeF G.kinds.length marks true (rd_T57 G.prods i).f1 = true → rdOf false marks (rd_T57 G.prods i).f0 = true
theorem MkS.start (G : Gr) : MkS G (List.replicate G.rules.length false) := ⟨by simp, fun a ha => by
 simp only [rdOf, List.getD_eq_getElem?_getD, List.getElem?_replicate] at ha; split at ha <;> simp at ha⟩
theorem MkS.next {G : Gr} {marks : List Bool} (h : MkS G marks) (hP : ProdsOk G) {i : Nat} (hi : i < G.prods.length) (hw : wholeF G.kinds.length marks true (rd_T57 G.prods i).f1 = true) : MkS G (marks.set (rd_T57 G.prods i).f0.toNat true) := by
 have hp := hP i hi; refine ⟨by simp [h.len], fun a ha => ?_⟩; rw [rdOf_set (by rw [h.len]; omega)] at ha; split at ha
 · rename_i e
   rw [e]; exact der_step (fun a ha => h.snd a ha) hi hP hw
 · exact h.snd a ha
theorem MkS.done {G : Gr} {marks : List Bool} (h : MkS G marks) (hP : ProdsOk G) (hc : ∀ i : Nat, i < G.prods.length → MkC G marks i) : marks = closedL G true :=
 closed_eq h.len (fun a _ => ⟨fun ha => h.snd a ha, fun hd => der_done hP (fun i hi => hc i hi) hd⟩)
set_option maxHeartbeats 4000000 in
set_option maxRecDepth 100000 in
theorem productive_calls (w : World) (G : Gr) (A0 A1 A2 A3 : Option Addr) (c0 c1 c2 c3 : Nat) (h : GAt w G A0 A1 A2 A3 c0 c1 c2 c3) (hc : CheckOk G) :
 Calls Try.prog 52 #[.agg #[.slice A0 G.kinds.length c0, .slice A1 G.precs.length c1, .slice A2 G.rules.length c2, .slice A3 G.prods.length c3, .int .i64 G.start]] w fun e w' =>
  ∃ v, e = .returned v ∧ kB.R 4 w' (w.heap.size + 1) (fun _ => True) v (closedL G true) ∧ Fr (fun _ => False) w w' := by
 have hu := Try.underlying26; have hu2 := Try.underlying57; have hm3 := Kd.C_max h.prods; have hR1 := (base_true hc.base).2.1; have hR2 := (base_true hc.base).2.2.1; have hQ2 := (base_true hc.base).2.2.2.2.2; have hK2 := hc.kinds.max; have HG := Aside0.mk h; have HC := Aside0.mk hc; have HW := Aside0.mk (show ChkW w (w.alloc (.cells #[.slice A0 G.kinds.length c0, .slice A1 G.precs.length c1, .slice A2 G.rules.length c2, .slice A3 G.prods.length c3, .int .i64 G.start] 26)) G A0 A1 A2 A3 c0 c1 c2 c3 from ⟨blk_new w _, (Fr.refl _ w).alloc _⟩); have hws : (w.alloc (.cells #[.slice A0 G.kinds.length c0, .slice A1 G.precs.length c1, .slice A2 G.rules.length c2, .slice A3 G.prods.length c3, .int .i64 G.start] 26)).heap.size = w.heap.size + 1 := by simp only [World.size_alloc]
 clear h hc; go_enter Try.func52, Try.ntmps52
 go_upto_region 1 with fail
 generalize w.alloc (.cells #[.slice A0 G.kinds.length c0, .slice A1 G.precs.length c1, .slice A2 G.rules.length c2, .slice A3 G.prods.length c3, .int .i64 G.start] 26) = W0 at HW hws ⊢; obtain ⟨e0, e1, e2, e3, e4⟩ := HW.out.cells; go_upto_region 2 with (at_make; refine Kd.R_make kB (w0 := W0) W0.heap.size 4 rfl (N := 10) rfl 36 _ _ rfl (G.rules.length : Int) rfl rfl Try.underlying36 (.bool false) 1 info4 rfl (by decide) (by omega) false (ok := fun _ => True) (okp := fun _ => True) rfl (fun _ hk => hk) trivial (by omega) (by omega) (Below.refl _ _) (Nat.le_refl _) ?_; intro v1 W1 h1 hB1 hg1 hb1; have HX := Aside0.mk (show CW w W1 G A0 A1 A2 A3 c0 c1 c2 c3 v1 (List.replicate G.rules.length false) from ⟨HW.out.go (Fr.of_below hB1), by simpa [hws] using h1⟩); clear h1 hB1 hg1)
 obtain ⟨gb, cap, rfl⟩ := marks_form HX.out.row (by simp; exact hR1); simp only [List.length_replicate] at HX hb1 ⊢; have HZ := Aside0.mk (MkS.start G); clear HW e0 e1 e2 e3 e4; go_wp2_with (fail)
 go_loopg [4] (G.rules.length + 1) (fun k a W => ∃ (sm : Bool) (M : List Bool), a = .bool sm ∧ M.count false + (if sm = true then 1 else 0) ≤ k ∧ Aside0 (CW w W G A0 A1 A2 A3 c0 c1 c2 c3 (.slice (some ⟨gb, 0, none⟩) G.rules.length cap) M) ∧ Aside0 (MkS G M) ∧ Aside0 (sm = false → ∀ i, i < G.prods.length → MkC G M i))
 case atStart => exact ⟨true, _, rfl, by simp, HX, HZ, ⟨fun h => absurd h (by decide)⟩⟩
 case round =>
  clear HX HZ; obtain ⟨sm, M, rfl, hk, HX, HZ, HCL⟩ := hrel; cases sm with
  | false =>
   have HE := Aside0.mk (HZ.out.done HC.out.prodsOk (HCL.out rfl)); have HRE := Aside0.mk (show kB.R 4 wr (w.heap.size + 1) (fun _ => True) (.slice (some ⟨gb, 0, none⟩) G.rules.length cap) (closedL G true) by rw [← HE.out]; exact HX.out.row); go_wp2_with (fail)
   go_ret
   exact ⟨_, rfl, HRE.out, HX.out.chk.fr⟩
  | true =>
   simp only [if_pos] at hk; go_wp2_with (fail)
   go_loopw [5, 4] (fun a b W => ∃ (i : Nat) (sm : Bool) (M' : List Bool), a = .int .i64 i ∧ b = .bool sm ∧ i ≤ G.prods.length ∧ M'.count false + (if sm = true then 1 else 0) ≤ M.count false ∧ Aside0 (CW w W G A0 A1 A2 A3 c0 c1 c2 c3 (.slice (some ⟨gb, 0, none⟩) G.rules.length cap) M') ∧ Aside0 (MkS G M') ∧ Aside0 (sm = false → ∀ j, j < i → MkC G M' j)) (fun a _ _ => G.prods.length - (intOf a).toNat)
   case atStart => exact ⟨0, false, M, rfl, rfl, Nat.zero_le _, by simp, HX, HZ, ⟨fun _ j hj => absurd hj (by omega)⟩⟩
   case round =>
    clear HX HZ HCL; obtain ⟨i, sm, M', rfl, rfl, hi, hf, HX, HZ, HCL⟩ := hrel; obtain ⟨e0, e1, e2, e3, e4⟩ := HX.out.chk.cells; by_cases hlt : i < G.prods.length
    · have HLT := Aside0.mk hlt
      obtain ⟨ad, B1, d1, B6, d6, rfl, x0, x1, x2, x3, x4, x5, x6, hl1, hC1, hl6, hC6⟩ := at_T57 HG.out.prods (i : Int) (by omega) (by omega); simp only [Int.toNat_natCast] at x0 x1 x2 x3 x4 x5 x6; have y0 := HX.out.chk.fr.cell x0 id; have y1 := HX.out.chk.fr.cell x1 id; have y2 := HX.out.chk.fr.cell x2 id; have y3 := HX.out.chk.fr.cell x3 id; have y4 := HX.out.chk.fr.cell x4 id; have y5 := HX.out.chk.fr.cell x5 id; have y6 := HX.out.chk.fr.cell x6 id; have HC1 := Aside0.mk hC1; have HPI := Aside0.mk (HC.out.prodsOk i hlt); have HNX := Aside0.mk (fun hw => HZ.out.next HC.out.prodsOk hlt hw); have HNC := Aside0.mk (show (¬ wholeF G.kinds.length M' true (rd_T57 G.prods i).f1 = true ∨ rdOf false M' (rd_T57 G.prods i).f0 = true) → MkC G M' i from fun h hw => h.elim (fun h => absurd hw h) id); clear x0 x1 x2 x3 x4 x5 x6 hC1 hC6 hl6 hl1; go_upto_region 9 with fail
      have HXA := Aside0.mk (HX.out.go ((Fr.refl (fun _ => False) wr).alloc (.cells #[.int .i64 (rd_T57 G.prods (i : Int)).f0, .slice B1 (rd_T57 G.prods (i : Int)).f1.length d1, .int .i64 (rd_T57 G.prods (i : Int)).f2, .int .i64 (rd_T57 G.prods (i : Int)).f3.f0, .int .i64 (rd_T57 G.prods (i : Int)).f3.f1, .string (rd_T57 G.prods (i : Int)).f3.f2, .slice B6 (rd_T57 G.prods (i : Int)).f3.f3.length d6] 57))); have HPB := Aside0.mk (blk_new wr (.cells #[.int .i64 (rd_T57 G.prods (i : Int)).f0, .slice B1 (rd_T57 G.prods (i : Int)).f1.length d1, .int .i64 (rd_T57 G.prods (i : Int)).f2, .int .i64 (rd_T57 G.prods (i : Int)).f3.f0, .int .i64 (rd_T57 G.prods (i : Int)).f3.f1, .string (rd_T57 G.prods (i : Int)).f3.f2, .slice B6 (rd_T57 G.prods (i : Int)).f3.f3.length d6] 57)); generalize wr.alloc (.cells #[.int .i64 (rd_T57 G.prods (i : Int)).f0, .slice B1 (rd_T57 G.prods (i : Int)).f1.length d1, .int .i64 (rd_T57 G.prods (i : Int)).f2, .int .i64 (rd_T57 G.prods (i : Int)).f3.f0, .int .i64 (rd_T57 G.prods (i : Int)).f3.f1, .string (rd_T57 G.prods (i : Int)).f3.f2, .slice B6 (rd_T57 G.prods (i : Int)).f3.f3.length d6] 57) = W5 at HXA HPB ⊢; generalize wr.heap.size = q at HPB ⊢; clear y0 y1 y2 y3 y4 y5 y6 HX e0 e1 e2 e3 e4; have hro := HPI.out.2.2.2; have hrl := HPI.out.2.2.1; have h00 := HPI.out.1; have h01 := HPI.out.2.1; rw [show rd_T57 G.prods i = rd_T57 G.prods (i : Int) from rfl] at hro hrl h00 h01 HNX HNC; have HNX : Aside0 (wholeF G.kinds.length M' true (rd_T57 G.prods (i : Int)).f1 = true → MkS G (M'.set (rd_T57 G.prods (i : Int)).f0.toNat true)) := HNX; change 0 ≤ (rd_T57 G.prods (i : Int)).f0 at h00
      change (rd_T57 G.prods (i : Int)).f0 < _ at h01
      have HRO := Aside0.mk hro; clear HPI hro; generalize rd_T57 G.prods (i : Int) = pr at HPB HRO hrl h00 h01 HC1 HNX HNC ⊢; have z0 := (blk_cell HPB.out 0).trans (show _ = some (Value.int .i64 pr.f0) from rfl); have z1 := (blk_cell HPB.out 1).trans (show _ = some (Value.slice B1 pr.f1.length d1) from rfl); have HML := Aside0.mk HZ.out.len; obtain ⟨hxm, hfz⟩ := HXA.out.at HML.out h00 h01; obtain ⟨e0, e1, e2, e3, e4⟩ := HXA.out.chk.cells; have HSF := Aside0.mk (fun (e : rdOf false M' pr.f0 = false) => set_falses (l := M') (k := pr.f0.toNat) (by rw [HML.out]; omega) (by rw [Int.toNat_of_nonneg h00]; exact e)); cases hmb : rdOf false M' pr.f0 with
      | true =>
       rw [hmb] at hxm; have hn2 := HNC.out (.inr hmb); have HCL2 := Aside0.mk (show sm = false → ∀ j, j < i + 1 → MkC G M' j from fun e j hj => by
        by_cases ej : j = i
        · rw [ej]; exact hn2
        · exact HCL.out e j (by omega))
       clear HNX HNC HSF hmb hn2; go_wp2_with (fail)
       exact ⟨⟨i + 1, sm, M', by go_num, rfl, HLT.out, hf, HXA, HZ, HCL2⟩, by have := HLT.out; simp [intOf]; omega⟩
      | false =>
       rw [hmb] at hxm; have hsf := HSF.out hmb; clear HSF; have HWC := Aside0.mk (refwhole_calls W5 G A0 A1 A2 (some ad) c0 c1 c2 c3 (some ⟨gb, 0, none⟩) B1 cap d1 M' pr.f1 hK2 hR2 (by have := (Kd.R_reads' HXA.out.row).2.2; exact this) (Kd.C_below HC1.out HXA.out.chk.fr.to_below) HML.out HRO.out (by omega)); rw [HML.out] at HWC; go_wp2_with (fail)
       refine HWC.out.mono ?_; rintro e W6 ⟨rfl, hF6⟩; have HX6 := Aside0.mk (HXA.out.go hF6); have HP6 := Aside0.mk (hF6.blk HPB.out id); clear HWC HXA HPB hF6 z0 z1 hxm hfz e0 e1 e2 e3 e4; cases hwb : wholeF G.kinds.length M' true pr.f1 with
       | false =>
        have hn2 := HNC.out (.inl (by rw [hwb]; decide)); have HCL2 := Aside0.mk (show sm = false → ∀ j, j < i + 1 → MkC G M' j from fun e j hj => by
         by_cases ej : j = i
         · rw [ej]; exact hn2
         · exact HCL.out e j (by omega))
        clear HNX HNC hwb hn2 hmb; go_wp2_with (fail)
        exact ⟨⟨i + 1, sm, M', by go_num, rfl, HLT.out, hf, HX6, HZ, HCL2⟩, by have := HLT.out; simp [intOf]; omega⟩
       | true =>
        have HZ7 := Aside0.mk (HNX.out hwb); have HX7 := Aside0.mk (HX6.out.mark HML.out pr.f0).1; obtain ⟨hxm, hfz⟩ := HX6.out.at HML.out h00 h01; have z0 := (blk_cell HP6.out 0).trans (show _ = some (Value.int .i64 pr.f0) from rfl); have hf7 : (M'.set pr.f0.toNat true).count false + (if true = true then 1 else 0) ≤ M.count false := by
         rw [if_pos rfl]; split at hf <;> omega
        clear HNX HNC hwb hmb hsf; go_wp2_with (fail)
        exact ⟨⟨i + 1, true, _, by go_num, rfl, HLT.out, hf7, HX7, HZ7, ⟨fun e => absurd e (by decide)⟩⟩, by have := HLT.out; simp [intOf]; omega⟩
    · obtain rfl : i = G.prods.length := by omega
      go_wp2_with (fail)
      go_roundg (M.count false)
      case measure => omega
      case rel => exact ⟨sm, M', rfl, hf, HX, HZ, HCL⟩
end Go.Proofs.Ytdngobjcdajogaa.Gram
