/-
slices.Grow of nothing, and slices.Concat of two rows of texts, walked.
-/
import Derived.Lib.AppendZerosOnto
import Derived.Test.YtdngobjcdajogaaMAP
import Derived.Test.YtdngobjcdajogaaMAV
import Derived.BigQuiet
import Derived.Test.YtdngobjcdajogaaMBD
import Derived.Test.YtdngobjcdajogaaMAR
import Derived.Test.YtdngobjcdajogaaMBE
set_option linter.unusedSimpArgs false
set_option linter.unusedVariables false
namespace Go.Proofs.Ytdngobjcdajogaa.Gram
open Go.RowKit Go.Proofs.YtdngobjcdajogaaW.PrintWords Go.Proofs.YtdngobjcdajogaaW.PrintLast Go.Proofs.YtdngobjcdajogaaW.PrintMore Go.Proofs.Ytdngobjcdajogaa.Fr Go.Proofs.Ytdngobjcdajogaa.PGramFirsts Go.Proofs.Ytdngobjcdajogaa.TextSet
theorem run_zeros (w : World) (n : Nat) (h0 : 0 < n) (h1 : n ≤ 1000000) (ty : TypeId) : (Builtin.append_ #[22, 3] ty #[.slice none 0 0, .int .i64 n]).run Try.prog w =
 .ok (.slice (some ⟨w.heap.size, 0, none⟩) n (grownCap w n 0 9)) (w.drew.alloc (.cells (Builtin.zeroCells (Value.string ⟨#[]⟩).cells n ++ Builtin.zeroCells (Value.string ⟨#[]⟩).cells (grownCap w n 0 9 - n)) 9)) := by
 obtain ⟨i0, hi, hzz⟩ := Option.map_eq_some_iff.1 (show (Try.prog.info? 9).map (fun i => (i.zero, i.size, i.bytes)) = some (some (.string ⟨#[]⟩), 1, 16) from info9); simp only [Prod.mk.injEq] at hzz; obtain ⟨hz, hs, hb⟩ := hzz; have h := Go.Lib.run_append_grow_zeros (P := Try.prog) w 22 3 ty 9 i0 (.string ⟨#[]⟩) .i64 .i64 Try.underlying22 Try.underlying3 hi hz none 0 0 [] (by simp [Builtin.firstCells]) n h0 (by omega) (by omega) (by omega) (by rw [hb]; omega) (by
  rw [hb]; have : Builtin.nextslicecap (0 + n) 0 ≤ n := by simp [Builtin.nextslicecap]; split <;> omega
  omega)
 simpa using h
theorem R_fresh (w : World) (n : Nat) (h1 : n ≤ 1000000) : Kd.string.R 9 (w.drew.alloc (.cells (Builtin.zeroCells (Value.string ⟨#[]⟩).cells n ++ Builtin.zeroCells (Value.string ⟨#[]⟩).cells (grownCap w n 0 9 - n)) 9)) w.heap.size (fun _ => True) (.slice (some ⟨w.heap.size, 0, none⟩) 0 (grownCap w n 0 9)) [] := by
 refine ⟨fun _ _ => trivial, [], ?_, Reps.none _ _⟩; have h2 := grownCap_ge w n 0 9; have hm : maxLen = 9223372036854775807 := by decide
 have h3 := grownCap_le_maxLen w n 0 9 (by omega); have h4 := World.ownsRow_made (base := w.heap.size) (e := 9) (size := 1) w.drew (Builtin.zeroCells (Value.string ⟨#[]⟩).cells n ++ Builtin.zeroCells (Value.string ⟨#[]⟩).cells (grownCap w n 0 9 - n)) (grownCap w n 0 9) (Nat.le_refl _) h3 (by
  simp only [Array.size_append, size_zeroCells, show (Value.string ⟨#[]⟩).cells.size = 1 from rfl]; omega)
 exact h4
set_option maxHeartbeats 2000000 in
set_option maxRecDepth 100000 in
theorem sgrow_calls (w : World) (n : Nat) (h0 : 0 < n) (h1 : n ≤ 1000000) :
 Calls Try.prog 76 #[.slice none 0 0, .int .i64 n] w fun e w' => ∃ v, e = .returned v ∧ Kd.string.R 9 w' w.heap.size (fun _ => True) v [] ∧ Fr (fun _ => False) w w' := by
 have hz := fun ty => run_zeros w n h0 h1 ty
 have HR := Aside0.mk (R_fresh w n h1); have HF := Aside0.mk ((Fr.refl (fun _ => False) w).drew.alloc (.cells (Builtin.zeroCells (Value.string ⟨#[]⟩).cells n ++ Builtin.zeroCells (Value.string ⟨#[]⟩).cells (grownCap w n 0 9 - n)) 9)); have hcap : n ≤ grownCap w n 0 9 := grownCap_ge w n 0 9; have hcm := grownCap_le_maxLen w n 0 9 (by have h9 : maxLen = 9223372036854775807 := (by decide); omega); generalize grownCap w n 0 9 = C at hz HR HF hcap hcm; have hm : maxLen = 9223372036854775807 := by decide
 go_enter Try.func76, Try.ntmps76
 go_wp2_with (at_builtin; refine Lib.wpList_append_run _ rfl _ _ _ _ rfl _ _ rfl rfl _ _ (hz _) ?_)
 go_ret
 exact ⟨_, rfl, HR.out, HF.out⟩
set_option maxHeartbeats 2000000 in
set_option maxRecDepth 100000 in
theorem concat_calls (w : World) (g : Nat) (A B : Option Addr) (c d n m : Nat) (la lb : List ByteArray) (hn : n = la.length) (hm : m = lb.length) (e0 : w.cell? ⟨g, 0, none⟩ = some (.slice A n c)) (e1 : w.cell? ⟨g, 1, none⟩ = some (.slice B m d)) (hA : Kd.string.C w A la.length la) (hB : Kd.string.C w B lb.length lb) (h0 : 0 < n) (h1 : n ≤ 4096) (h2 : m ≤ 4096) :
 Calls Try.prog 55 #[.slice (some ⟨g, 0, none⟩) 2 2] w fun e w' => ∃ v, e = .returned v ∧ Kd.string.R 9 w' w.heap.size (fun _ => True) v (la ++ lb) ∧ Fr (fun _ => False) w w' := by
 have HA := Aside0.mk hA; have HB := Aside0.mk hB; have HN := Aside0.mk hn; have HM := Aside0.mk hm; clear hA hB hn hm; have HGR := sgrow_calls w (n + m) (by omega) (by omega); rw [Int.natCast_add] at HGR; have HGR := Aside0.mk HGR; go_enter Try.func55, Try.ntmps55
 go_wp2_with (fail)
 refine wp_loop_rounds 3 ?_; rw [rounds_succ]; go_wp2_with (fail)
 rw [rounds_succ]; go_wp2_with (fail)
 rw [rounds_succ]; go_wp2_with (fail)
 refine HGR.out.mono ?_; rintro e W1 ⟨v1, rfl, hR, hF⟩; have HR1 := Aside0.mk hR; have HF1 := Aside0.mk hF; have f0 := hF.cell e0 id; have f1 := hF.cell e1 id; have HA1 := Aside0.mk (Kd.C_below HA.out hF.to_below); have hs1 := hF.size; have E1 := Aside0.mk e1; clear HGR hR hF e0 e1; go_wp2_with (fail)
 refine wp_loop_rounds 3 ?_; rw [rounds_succ]; go_wp2_with (first | ((with_reducible refine gate_builtin (b := .append) (xs := #[.tmp 31, .tmp 32]) rfl ?_); at_builtin; refine Kd.R_append_rows Kd.string (w0 := W1) w.heap.size rfl (.tmp 31) (.tmp 32) 22 9 (.string ⟨#[]⟩) 16 rfl Try.underlying22 info9 rfl (by decide) (by omega) _ [] la _ n _ (fun _ => True) (fun _ => False) rfl rfl HR1.out (by rw [HN.out]; exact HA1.out) (fun _ _ h => h) (fun _ h => h.elim) (fun _ _ => trivial) (Below.refl _ _) hs1 (by simp only [List.length_nil]; omega) ?_; intro v2 W2 h2 hb2 hg2 _; have HR2 := Aside0.mk (show Kd.string.R 9 W2 w.heap.size (fun _ => True) v2 la from h2); have HG2 := Aside0.mk (show Fr (fun _ => False) w W2 from HF1.out.grown hg2 (fun k hk hlt => by have := Kd.R_base HR1.out k hk; omega)); clear h2 hb2 hg2))
 clear f0 f1; have g1 := HG2.out.cell E1.out id; have HB2 := Aside0.mk (Kd.C_below HB.out HG2.out.to_below); have hs2 := HG2.out.size; rw [rounds_succ]; go_wp2_with (first | ((with_reducible refine gate_builtin (b := .append) (xs := #[.tmp 31, .tmp 32]) rfl ?_); at_builtin; refine Kd.R_append_rows Kd.string (w0 := W2) w.heap.size rfl (.tmp 31) (.tmp 32) 22 9 (.string ⟨#[]⟩) 16 rfl Try.underlying22 info9 rfl (by decide) (by omega) _ la lb _ m _ (fun _ => True) (fun _ => False) rfl rfl HR2.out (by rw [HM.out]; exact HB2.out) (fun _ _ h => h) (fun _ h => h.elim) (fun _ _ => trivial) (Below.refl _ _) hs2 (by have := HN.out; omega) ?_; intro v3 W3 h3 hb3 hg3 _; have HR3 := Aside0.mk h3; have HG3 := Aside0.mk (show Fr (fun _ => False) w W3 from HG2.out.grown hg3 (fun k hk hlt => by have := Kd.R_base HR2.out k hk; omega)); clear h3 hb3 hg3))
 rw [rounds_succ]; go_wp2_with (fail)
 go_ret
 exact ⟨_, rfl, HR3.out, HG3.out⟩
theorem named_l64 : ∀ (k : Nat) (s : ByteArray) (i : Int), token_named.l0 k s i = some true → s.size ≤ 64
 | 0, _, _, h => by simp [token_named.l0] at h
 | k + 1, s, i, h => by
  unfold token_named.l0 at h; repeat' split at h
  all_goals first | exact named_l64 k s _ h | (simp at h; omega) | (simp at h; done)
theorem named_64 {s : ByteArray} (h : named s = true) : s.size ≤ 64 := by
 unfold named at h; cases hf : token_named.f (s.size + 1) s with
 | none => rw [hf] at h; cases h
 | some b =>
  rw [hf] at h; have hb : b = true := h; subst hb; exact named_l64 _ _ _ hf
def nm (G : Gr) (x : Int) : ByteArray := if x < G.kinds.length then rdOf ByteArray.empty G.kinds x else rdOf ByteArray.empty G.rules (x - G.kinds.length)
def symsL (G : Gr) : ByteArray → List Int → ByteArray
 | s, [] => s
 | s, x :: l => symsL G (s ++ (⟨#[32]⟩ ++ nm G x)) l
def lineT (G : Gr) (p : S57) : ByteArray := symsL G (rdOf ByteArray.empty G.rules p.f0 ++ ⟨#[32, 61]⟩) p.f1
theorem nm_app {G : Gr} {x : Int} (h : 0 ≤ x) : rdOf ByteArray.empty (G.kinds ++ G.rules) x = nm G x := by
 unfold nm rdOf; split
 · rw [List.getD_eq_getElem?_getD, List.getElem?_append_left (by omega), ← List.getD_eq_getElem?_getD]
 · rw [List.getD_eq_getElem?_getD, List.getElem?_append_right (by omega), ← List.getD_eq_getElem?_getD]
   congr 1
   omega
theorem rules_4096 {G : Gr} (hc : CheckOk G) {x : Int} : (rdOf ByteArray.empty G.rules x).size ≤ 4096 := by
 by_cases h : x.toNat < G.rules.length
 · have h1 := (namesF_iff.1 hc.base).2 x.toNat h
   rw [nameF_iff] at h1; have := h1.1.2; exact this
 · unfold rdOf
   rw [List.getD_eq_getElem?_getD, List.getElem?_eq_none (by omega)]; decide
theorem kinds_4096 {G : Gr} (hc : CheckOk G) {x : Int} : (rdOf ByteArray.empty G.kinds x).size ≤ 4096 := by
 by_cases h : x.toNat < G.kinds.length
 · have h1 : rdOf ByteArray.empty G.kinds x ∈ G.kinds := by
    unfold rdOf; rw [List.getD_eq_getElem?_getD, List.getElem?_eq_getElem h]; exact List.getElem_mem h
   have := named_64 (hc.kinds.all _ h1); omega
 · unfold rdOf
   rw [List.getD_eq_getElem?_getD, List.getElem?_eq_none (by omega)]; decide
theorem nm_4096 {G : Gr} (hc : CheckOk G) (x : Int) : (nm G x).size ≤ 4096 := by
 unfold nm; split
 · exact kinds_4096 hc
 · exact rules_4096 hc
theorem symsL_drop (G : Gr) {row : List Int} {i : Nat} (h : i < row.length) (t : ByteArray) : symsL G t (row.drop i) = symsL G (t ++ (⟨#[32]⟩ ++ nm G (rd row (i : Int)))) (row.drop (i + 1)) := by
 rw [drop_rd h]; rfl
def LinesPost (w : World) (G : Gr) (e : Ending) (w' : World) : Prop :=
 (¬ CheckOk G ∧ e = .returned (.tuple #[.slice none 0 0, .int .i64 130])) ∨
 (CheckOk G ∧ ∃ v, e = .returned (.tuple #[v, .int .i64 0]) ∧ Kd.string.R 9 w' w.heap.size (fun _ => True) v (G.prods.map (lineT G)))
set_option maxHeartbeats 8000000 in
set_option maxRecDepth 100000 in
theorem lines_calls (w : World) (G : Gr) (A0 A1 A2 A3 : Option Addr) (c0 c1 c2 c3 : Nat) (h : GAt w G A0 A1 A2 A3 c0 c1 c2 c3) :
 Calls Try.prog 21 #[.agg #[.slice A0 G.kinds.length c0, .slice A1 G.precs.length c1, .slice A2 G.rules.length c2, .slice A3 G.prods.length c3, .int .i64 G.start]] w fun e w' => LinesPost w G e w' ∧ Fr (fun _ => False) w w' := by
 have hu := Try.underlying26; have hu2 := Try.underlying57; have HG := Aside0.mk h; have HW := Aside0.mk (show ChkW w (w.alloc (.cells #[.slice A0 G.kinds.length c0, .slice A1 G.precs.length c1, .slice A2 G.rules.length c2, .slice A3 G.prods.length c3, .int .i64 G.start] 26)) G A0 A1 A2 A3 c0 c1 c2 c3 from ⟨blk_new w _, (Fr.refl _ w).alloc _⟩); clear h; go_enter Try.func21, Try.ntmps21
 go_upto_region 1 with fail
 generalize w.alloc (.cells #[.slice A0 G.kinds.length c0, .slice A1 G.precs.length c1, .slice A2 G.rules.length c2, .slice A3 G.prods.length c3, .int .i64 G.start] 26) = W0 at HW ⊢; obtain ⟨e0, e1, e2, e3, e4⟩ := HW.out.cells; go_wp2_with (fail)
 refine (check_calls _ G A0 A1 A2 A3 c0 c1 c2 c3 (HG.out.go HW.out.fr)).mono ?_; rintro e W1 ⟨⟨r, rfl, hr1, hr2⟩, hF⟩; have HW1 := Aside0.mk (HW.out.go hF); clear HW hF e0 e1 e2 e3 e4; by_cases hr0 : r = 0
 case neg =>
  obtain rfl : r = 130 := by omega
  have HN := Aside0.mk (fun hc => hr0 (hr1.2 hc)); clear hr1 hr2; go_wp2_with (fail)
  go_ret2
  exact ⟨.inl ⟨HN.out, rfl⟩, HW1.out.fr⟩
 case pos =>
 subst hr0; have HC := Aside0.mk (hr1.1 rfl); have hR1 := (base_true HC.out.base).2.1; have hR2 := (base_true HC.out.base).2.2.1; have hQ2 := (base_true HC.out.base).2.2.2.2.2; have hK1 := HC.out.kinds.two; have hK2 := HC.out.kinds.max; clear hr1 hr2; obtain ⟨e0, e1, e2, e3, e4⟩ := HW1.out.cells; go_wp2_with (fail)
 have HFA := Aside0.mk ((Fr.refl (fun _ => False) W1).alloc (.cells #[Value.slice A0 G.kinds.length c0, Value.slice A2 G.rules.length c2] 22)); have HBA := blk_new W1 (.cells #[Value.slice A0 G.kinds.length c0, Value.slice A2 G.rules.length c2] 22); generalize W1.alloc (.cells #[Value.slice A0 G.kinds.length c0, Value.slice A2 G.rules.length c2] 22) = W2 at HFA HBA ⊢; have HW2 := Aside0.mk (HW1.out.go HFA.out); refine (concat_calls W2 W1.heap.size A0 A2 c0 c2 G.kinds.length G.rules.length G.kinds G.rules rfl rfl ((blk_cell HBA 0).trans rfl) ((blk_cell HBA 1).trans rfl) (HG.out.go HW2.out.fr).kinds (HG.out.go HW2.out.fr).rules (by omega) (by omega) (by omega)).mono ?_; rintro e W3 ⟨vn, rfl, hR3, hF3⟩; have HW3 := Aside0.mk (HW2.out.go hF3); obtain ⟨NA, nc, rfl⟩ := Kd.R_slice hR3; have HNC := Aside0.mk (show Kd.string.C W3 NA (G.kinds ++ G.rules).length (G.kinds ++ G.rules) from (Kd.R_reads' hR3).2.2); have hnl : (G.kinds ++ G.rules).length = G.kinds.length + G.rules.length := List.length_append; generalize (G.kinds ++ G.rules).length = nl at hnl HNC ⊢; clear HFA HBA hR3 hF3 HW1 HW2 e0 e1 e2 e3 e4; obtain ⟨e0, e1, e2, e3, e4⟩ := HW3.out.cells; have hs3 := HW3.out.fr.size; go_wp2_with (fail)
 have HT0 := Aside0.mk (show Kd.string.R 9 W3 W3.heap.size (fun _ => True) (.slice none 0 0) ((G.prods.take 0).map (lineT G)) from Kd.R_nil _ _ _ _ _); have HF0 := Aside0.mk (Fr.refl (fun _ => False) W3); clear e0 e1 e2 e3 e4; go_loopw [6, 26] (fun v a W => ∃ i : Nat, a = .int .i64 i ∧ i ≤ G.prods.length ∧ Aside0 (Kd.string.R 9 W W3.heap.size (fun _ => True) v ((G.prods.take i).map (lineT G))) ∧ Aside0 (Fr (fun _ => False) W3 W)) (fun _ a _ => G.prods.length - (intOf a).toNat)
 case atStart => exact ⟨0, rfl, Nat.zero_le _, HT0, HF0⟩
 case round =>
  clear HT0 HF0; obtain ⟨i, rfl, hi, HT, HF⟩ := hrel; by_cases hlt : i < G.prods.length
  case neg =>
   obtain rfl : i = G.prods.length := by omega
   have HR := Aside0.mk (show Kd.string.R 9 wr w.heap.size (fun _ => True) _ (G.prods.map (lineT G)) from by
    have := HT.out; rw [List.take_length] at this; exact Kd.R_lower this hs3)
   go_wp2_with (fail)
   go_ret2
   exact ⟨.inr ⟨HC.out, _, rfl, HR.out⟩, HW3.out.fr.trans HF.out (fun _ _ h => h)⟩
  case pos =>
  have HLT := Aside0.mk hlt; obtain ⟨e0, e1, e2, e3, e4⟩ := (HW3.out.go HF.out).cells; obtain ⟨ad, B1, d1, B6, d6, rfl, x0, x1, x2, x3, x4, x5, x6, hl1, hC1, hl6, hC6⟩ := at_T57 HG.out.prods (i : Int) (by omega) (by omega); simp only [Int.toNat_natCast] at x0 x1 x2 x3 x4 x5 x6; have hFw := HW3.out.fr.trans HF.out (fun _ _ h => h); have y0 := hFw.cell x0 id; have y1 := hFw.cell x1 id; have y2 := hFw.cell x2 id; have y3 := hFw.cell x3 id; have y4 := hFw.cell x4 id; have y5 := hFw.cell x5 id; have y6 := hFw.cell x6 id; clear x0 x1 x2 x3 x4 x5 x6 hFw; go_upto_region 9 with fail
  have HPB := Aside0.mk (blk_new wr (.cells #[.int .i64 (rd_T57 G.prods (i : Int)).f0, .slice B1 (rd_T57 G.prods (i : Int)).f1.length d1, .int .i64 (rd_T57 G.prods (i : Int)).f2, .int .i64 (rd_T57 G.prods (i : Int)).f3.f0, .int .i64 (rd_T57 G.prods (i : Int)).f3.f1, .string (rd_T57 G.prods (i : Int)).f3.f2, .slice B6 (rd_T57 G.prods (i : Int)).f3.f3.length d6] 57)); have HFA := Aside0.mk ((Fr.refl (fun _ => False) wr).alloc (.cells #[.int .i64 (rd_T57 G.prods (i : Int)).f0, .slice B1 (rd_T57 G.prods (i : Int)).f1.length d1, .int .i64 (rd_T57 G.prods (i : Int)).f2, .int .i64 (rd_T57 G.prods (i : Int)).f3.f0, .int .i64 (rd_T57 G.prods (i : Int)).f3.f1, .string (rd_T57 G.prods (i : Int)).f3.f2, .slice B6 (rd_T57 G.prods (i : Int)).f3.f3.length d6] 57)); clear y0 y1 y2 y3 y4 y5 y6 e0 e1 e2 e3 e4; generalize wr.alloc (.cells #[.int .i64 (rd_T57 G.prods (i : Int)).f0, .slice B1 (rd_T57 G.prods (i : Int)).f1.length d1, .int .i64 (rd_T57 G.prods (i : Int)).f2, .int .i64 (rd_T57 G.prods (i : Int)).f3.f0, .int .i64 (rd_T57 G.prods (i : Int)).f3.f1, .string (rd_T57 G.prods (i : Int)).f3.f2, .slice B6 (rd_T57 G.prods (i : Int)).f3.f3.length d6] 57) = W5 at HPB HFA ⊢; generalize wr.heap.size = bp at HPB ⊢; have hpo := HC.out.prods i hlt; have HTK := Aside0.mk (show (G.prods.take (i + 1)).map (lineT G) = (G.prods.take i).map (lineT G) ++ [lineT G (rd_T57 G.prods (i : Int))] from by rw [take_T57 hlt, List.map_append]; rfl); rw [show rd_T57 G.prods i = rd_T57 G.prods (i : Int) from rfl] at hpo; have HPI := Aside0.mk hpo; have HC1 := Aside0.mk (Kd.C_below hC1 ((HW3.out.fr.trans HF.out (fun _ _ h => h)).trans HFA.out (fun _ _ h => h)).to_below); have hFw := HF.out.trans HFA.out (fun _ _ h => h); have HT1 := Aside0.mk (Kd.R_below HT.out HFA.out.to_below); have HF1 := Aside0.mk hFw; clear hpo hC1 hC6 hl1 hl6 hFw HT HF HFA hlt; generalize rd_T57 G.prods (i : Int) = pr at HPB HPI HC1 HTK ⊢; obtain ⟨pl, psl⟩ : ∃ n, pr.f1.length = n := ⟨_, rfl⟩; have hl0 := HPI.out.l0; have hl1 := HPI.out.l1; have hlen := HPI.out.len; have z0 := (blk_cell HPB.out 0).trans (show _ = some (Value.int .i64 pr.f0) from rfl); have z1 := (blk_cell HPB.out 1).trans (show _ = some (Value.slice B1 pr.f1.length d1) from rfl); obtain ⟨e0, e1, e2, e3, e4⟩ := (HW3.out.go HF1.out).cells; obtain ⟨adr, rfl, hr⟩ := Kd.at_string (HG.out.go (HW3.out.fr.trans HF1.out (fun _ _ h => h))).rules pr.f0 hl0 hl1; have hrz := rules_4096 HC.out (x := pr.f0); have HST := Aside0.mk (show lineT G pr = symsL G (rdOf ByteArray.empty G.rules pr.f0 ++ ⟨#[32, 61]⟩) (pr.f1.drop 0) from rfl); generalize rdOf ByteArray.empty G.rules pr.f0 = rn at hr hrz HST; go_wp2_with (fail)
  have hrz2 : (rn ++ (⟨#[32, 61]⟩ : ByteArray)).size ≤ 4098 + 4097 * 0 := by
   rw [ByteArray.size_append]; have : (⟨#[32, 61]⟩ : ByteArray).size = 2 := rfl; omega
  clear hr hrz; go_loopw [9, 40] (fun s a W => ∃ (k : Nat) (t : ByteArray), s = .string t ∧ a = .int .i64 k ∧ k ≤ pr.f1.length ∧ t.size ≤ 4098 + 4097 * k ∧ Aside0 (lineT G pr = symsL G t (pr.f1.drop k)) ∧ W = W5) (fun _ a _ => pr.f1.length - (intOf a).toNat)
  case atStart => exact ⟨0, _, rfl, rfl, Nat.zero_le _, hrz2, HST, rfl⟩
  case round =>
   clear HST hrz2; obtain ⟨k, t, rfl, rfl, hk, hts, HST, rfl⟩ := hrel; by_cases hkl : k < pr.f1.length
   case neg =>
    obtain rfl : k = pr.f1.length := by omega
    have HX := Aside0.mk (show t = lineT G pr from by rw [HST.out, List.drop_length]; rfl); have hsw := HF1.out.size; clear HST hk hkl hts e0 e1 e2 e3 e4 z0 z1 hlen; have HLN := Aside0.mk (show ((G.prods.take i).map (lineT G)).length < 4097 from by rw [List.length_map, List.length_take]; omega); go_wp2_with (first | ((with_reducible refine gate_builtin (b := .append) (xs := #[.tmp 52, .tmp 54]) rfl ?_); at_builtin; refine Kd.R_append Kd.string (w0 := wr) W3.heap.size rfl (.tmp 52) (.tmp 54) 22 9 (.string ⟨#[]⟩) 16 rfl Try.underlying22 info9 rfl (by decide) (by omega) _ ((G.prods.take i).map (lineT G)) t [.string t] (fun _ => True) (fun _ => False) rfl rfl rfl (fun _ hf => hf.elim) (fun _ _ => trivial) HT1.out (Below.refl _ _) hsw (by have := HLN.out; omega) ?_; intro v8 W8 h8 hb8 hg8 _; have HF8 := Aside0.mk (show Fr (fun _ => False) W3 W8 from HF1.out.grown hg8 (fun k hk hlt => by have := Kd.R_base HT1.out k hk; omega)); have HT8 := Aside0.mk h8; clear h8 hb8 hg8))
    rw [HX.out, ← HTK.out] at HT8; exact ⟨⟨i + 1, by go_num, HLT.out, HT8, HF8⟩, by have := HLT.out; simp [intOf]; omega⟩
   case pos =>
   obtain ⟨adx, rfl, hx⟩ := Kd.at_int HC1.out (k : Int) (by omega) (by omega); obtain ⟨hx1, hx2⟩ := HPI.out.syms k hkl; have HSN := Aside0.mk (HST.out.trans (symsL_drop G hkl t)); have hnz := nm_4096 HC.out (rd pr.f1 (k : Int)); simp only [Int.toNat_natCast] at hx; generalize rd pr.f1 (k : Int) = x at hx hx1 hx2 HSN hnz; obtain ⟨adn, hadn, hn⟩ := Kd.at_string HNC.out x (by omega) (by omega); subst hadn; have hn2 := HF1.out.cell hn id; rw [nm_app (by omega)] at hn2; clear hn; have hz2 : (t ++ ((⟨#[32]⟩ : ByteArray) ++ nm G x)).size ≤ 4098 + 4097 * (k + 1) := by
    rw [ByteArray.size_append, ByteArray.size_append]; have : (⟨#[32]⟩ : ByteArray).size = 1 := rfl; omega
   clear HST; generalize nm G x = nx at hn2 hz2 HSN hnz; go_wp2_with (fail)
   exact ⟨⟨k + 1, _, rfl, by go_num, hkl, hz2, HSN, trivial⟩, by simp [intOf]; omega⟩
set_option maxHeartbeats 4000000 in
set_option maxRecDepth 100000 in
theorem symbol_calls (w : World) (G : Gr) (A0 A1 A2 A3 : Option Addr) (c0 c1 c2 c3 : Nat) (h : GAt w G A0 A1 A2 A3 c0 c1 c2 c3) (hK : G.kinds.length ≤ 1024) (hR : G.rules.length ≤ 2048) (x : Int) (h0 : 0 ≤ x) (h1 : x < G.kinds.length + G.rules.length) :
 Calls Try.prog 56 #[.agg #[.slice A0 G.kinds.length c0, .slice A1 G.precs.length c1, .slice A2 G.rules.length c2, .slice A3 G.prods.length c3, .int .i64 G.start], .int .i64 x] w fun e w' => e = .returned (.string (nm G x)) ∧ Fr (fun _ => False) w w' := by
 have hu := Try.underlying26; have HG := Aside0.mk h; have HW := Aside0.mk (show ChkW w (w.alloc (.cells #[.slice A0 G.kinds.length c0, .slice A1 G.precs.length c1, .slice A2 G.rules.length c2, .slice A3 G.prods.length c3, .int .i64 G.start] 26)) G A0 A1 A2 A3 c0 c1 c2 c3 from ⟨blk_new w _, (Fr.refl _ w).alloc _⟩); clear h; go_enter Try.func56, Try.ntmps56
 go_upto_region 1 with fail
 generalize w.alloc (.cells #[.slice A0 G.kinds.length c0, .slice A1 G.precs.length c1, .slice A2 G.rules.length c2, .slice A3 G.prods.length c3, .int .i64 G.start] 26) = W0 at HW ⊢; obtain ⟨e0, e1, e2, e3, e4⟩ := HW.out.cells; by_cases hk : x < G.kinds.length
 · obtain ⟨ad, rfl, hx⟩ := Kd.at_string (HG.out.go HW.out.fr).kinds x h0 hk
   have HX := Aside0.mk (show rdOf ByteArray.empty G.kinds x = nm G x from by unfold nm; rw [if_pos hk]); rw [HX.out] at hx; go_wp2_with (fail)
   go_ret
   exact ⟨rfl, HW.out.fr⟩
 · obtain ⟨ad, rfl, hx⟩ := Kd.at_string (HG.out.go HW.out.fr).rules (x - G.kinds.length) (by omega) (by omega)
   have HX := Aside0.mk (show rdOf ByteArray.empty G.rules (x - G.kinds.length) = nm G x from by unfold nm; rw [if_neg hk]); rw [HX.out, show (x - (G.kinds.length : Int)).toNat = x.toNat - G.kinds.length by omega] at hx; go_wp2_with (fail)
   go_ret
   exact ⟨rfl, HW.out.fr⟩
set_option maxHeartbeats 8000000 in
set_option maxRecDepth 100000 in
theorem rlines_calls (w : World) (G : Gr) (A0 A1 A2 A3 : Option Addr) (c0 c1 c2 c3 : Nat) (h : GAt w G A0 A1 A2 A3 c0 c1 c2 c3) :
 Calls Try.prog 22 #[.agg #[.slice A0 G.kinds.length c0, .slice A1 G.precs.length c1, .slice A2 G.rules.length c2, .slice A3 G.prods.length c3, .int .i64 G.start]] w fun e w' => LinesPost w G e w' ∧ Fr (fun _ => False) w w' := by
 have hu := Try.underlying26; have HG := Aside0.mk h; have HW := Aside0.mk (show ChkW w (w.alloc (.cells #[.slice A0 G.kinds.length c0, .slice A1 G.precs.length c1, .slice A2 G.rules.length c2, .slice A3 G.prods.length c3, .int .i64 G.start] 26)) G A0 A1 A2 A3 c0 c1 c2 c3 from ⟨blk_new w _, (Fr.refl _ w).alloc _⟩); clear h; go_enter Try.func22, Try.ntmps22
 go_upto_region 1 with fail
 generalize w.alloc (.cells #[.slice A0 G.kinds.length c0, .slice A1 G.precs.length c1, .slice A2 G.rules.length c2, .slice A3 G.prods.length c3, .int .i64 G.start] 26) = W0 at HW ⊢; obtain ⟨e0, e1, e2, e3, e4⟩ := HW.out.cells; go_wp2_with (fail)
 refine (refcheck_calls _ G A0 A1 A2 A3 c0 c1 c2 c3 (HG.out.go HW.out.fr)).mono ?_; rintro e W1 ⟨⟨r, rfl, hr1, hr2⟩, hF⟩; have HW1 := Aside0.mk (HW.out.go hF); clear HW hF e0 e1 e2 e3 e4; by_cases hr0 : r = 0
 case neg =>
  have HN := Aside0.mk (fun hc => hr0 (hr1.2 hc)); clear hr1 hr2; go_wp2_with (fail)
  go_ret2
  exact ⟨.inl ⟨HN.out, rfl⟩, HW1.out.fr⟩
 case pos =>
 subst hr0; have HC := Aside0.mk (hr1.1 rfl); have hR1 := (base_true HC.out.base).2.1; have hR2 := (base_true HC.out.base).2.2.1; have hQ2 := (base_true HC.out.base).2.2.2.2.2; have hK1 := HC.out.kinds.two; have hK2 := HC.out.kinds.max; clear hr1 hr2; have hs1 := HW1.out.fr.size; have HT0 := Aside0.mk (show Kd.string.R 9 W1 W1.heap.size (fun _ => True) (.slice none 0 0) ((G.prods.take 0).map (lineT G)) from Kd.R_nil _ _ _ _ _); have HF0 := Aside0.mk (Fr.refl (fun _ => False) W1); go_wp2_with (fail)
 go_loopw [4, 5] (fun v a W => ∃ i : Nat, a = .int .i64 i ∧ i ≤ G.prods.length ∧ Aside0 (Kd.string.R 9 W W1.heap.size (fun _ => True) v ((G.prods.take i).map (lineT G))) ∧ Aside0 (Fr (fun _ => False) W1 W)) (fun _ a _ => G.prods.length - (intOf a).toNat)
 case atStart => exact ⟨0, rfl, Nat.zero_le _, HT0, HF0⟩
 case round =>
  clear HT0 HF0; obtain ⟨i, rfl, hi, HT, HF⟩ := hrel; obtain ⟨e0, e1, e2, e3, e4⟩ := (HW1.out.go HF.out).cells; by_cases hlt : i < G.prods.length
  case neg =>
   obtain rfl : i = G.prods.length := by omega
   have HR := Aside0.mk (show Kd.string.R 9 wr w.heap.size (fun _ => True) _ (G.prods.map (lineT G)) from by
    have := HT.out; rw [List.take_length] at this; exact Kd.R_lower this hs1)
   go_wp2_with (fail)
   go_ret2
   exact ⟨.inr ⟨HC.out, _, rfl, HR.out⟩, HW1.out.fr.trans HF.out (fun _ _ h => h)⟩
  case pos =>
  have HLT := Aside0.mk hlt; have HFW := Aside0.mk (HW1.out.fr.trans HF.out (fun _ _ h => h)); obtain ⟨ad, B1, d1, B6, d6, rfl, x0, x1, x2, x3, x4, x5, x6, hl1, hC1, hl6, hC6⟩ := at_T57 HG.out.prods (i : Int) (by omega) (by omega); simp only [Int.toNat_natCast] at x0 x1 x2 x3 x4 x5 x6; have HX0 := Aside0.mk x0; have HX1 := Aside0.mk x1; clear x0 x1 x2 x3 x4 x5 x6 hl6 hC6; have hpo := HC.out.prods i hlt; have HTK := Aside0.mk (show (G.prods.take (i + 1)).map (lineT G) = (G.prods.take i).map (lineT G) ++ [lineT G (rd_T57 G.prods (i : Int))] from by rw [take_T57 hlt, List.map_append]; rfl); rw [show rd_T57 G.prods i = rd_T57 G.prods (i : Int) from rfl] at hpo; have HPI := Aside0.mk hpo; have HC1 := Aside0.mk hC1; have HL1 := Aside0.mk hl1; clear hpo hC1 hl1; generalize rd_T57 G.prods (i : Int) = pr at HX0 HX1 HPI HC1 HTK HL1 ⊢; have hl0 := HPI.out.l0; have hl1 := HPI.out.l1; have hlen := HPI.out.len; have y0 := HFW.out.cell HX0.out id; have y1 := HFW.out.cell HX1.out id; obtain ⟨adr, rfl, hr⟩ := Kd.at_string (HG.out.go HFW.out).rules pr.f0 hl0 hl1; have hrz := rules_4096 HC.out (x := pr.f0); have HST := Aside0.mk (show lineT G pr = symsL G (rdOf ByteArray.empty G.rules pr.f0 ++ ⟨#[32, 61]⟩) (pr.f1.drop 0) from rfl); generalize rdOf ByteArray.empty G.rules pr.f0 = rn at hr hrz HST; have hsm : ¬ (9223372036854775807 < rn.size + 2) := by omega
  have HTD := Aside0.mk (fun n => (show Kd.string.R 9 (wr.drewN n) W1.heap.size (fun _ => True) _ ((G.prods.take i).map (lineT G)) from Kd.R_below HT.out (pw_below_drewN (Below.refl _ _) n))); have HFD := Aside0.mk (fun n => HF.out.drewN n); go_wp2_with (fail)
  go_quiet (fail)
  have HT1 := Aside0.mk (HTD.out nq); have HF5 := Aside0.mk (HFD.out nq); have hrz2 : (rn ++ (⟨#[32, 61]⟩ : ByteArray)).size ≤ 4098 + 4097 * 0 := by
   rw [ByteArray.size_append]; have : (⟨#[32, 61]⟩ : ByteArray).size = 2 := rfl; omega
  clear hr hrz hsm HT HF HTD HFD HFW y0 y1 e0 e1 e2 e3 e4; generalize wr.drewN nq = W5 at HT1 HF5 ⊢; go_wp2_with (fail)
  go_loopw [6, 7] (fun s a W => ∃ (k : Nat) (t : ByteArray), s = .string t ∧ a = .int .i64 k ∧ k ≤ pr.f1.length ∧ t.size ≤ 4098 + 4097 * k ∧ Aside0 (lineT G pr = symsL G t (pr.f1.drop k)) ∧ Aside0 (Fr (fun _ => False) W5 W)) (fun _ a _ => pr.f1.length - (intOf a).toNat)
  case atStart => exact ⟨0, _, rfl, rfl, Nat.zero_le _, hrz2, HST, ⟨Fr.refl _ _⟩⟩
  case round =>
   clear HST hrz2; obtain ⟨k, t, rfl, rfl, hk, hts, HST, HF⟩ := hrel; have HF1 := Aside0.mk (HF5.out.trans HF.out (fun _ _ h => h)); have HFK := Aside0.mk (HW1.out.fr.trans HF1.out (fun _ _ h => h)); obtain ⟨e0, e1, e2, e3, e4⟩ := (HW1.out.go HF1.out).cells; have y1 := HFK.out.cell HX1.out id; by_cases hkl : k < pr.f1.length
   case neg =>
    obtain rfl : k = pr.f1.length := by omega
    have HX := Aside0.mk (show t = lineT G pr from by rw [HST.out, List.drop_length]; rfl); have hsw := HF1.out.size; have HT2 := Aside0.mk (Kd.R_below HT1.out HF.out.to_below); clear HST hk hts hlen; have HLN := Aside0.mk (show ((G.prods.take i).map (lineT G)).length < 4097 from by rw [List.length_map, List.length_take]; omega); go_wp2_with (first | ((with_reducible refine gate_builtin (b := .append) (xs := #[.tmp 54, .tmp 56]) rfl ?_); at_builtin; refine Kd.R_append Kd.string (w0 := wr) W1.heap.size rfl (.tmp 54) (.tmp 56) 22 9 (.string ⟨#[]⟩) 16 rfl Try.underlying22 info9 rfl (by decide) (by omega) _ ((G.prods.take i).map (lineT G)) t [.string t] (fun _ => True) (fun _ => False) rfl rfl rfl (fun _ hf => hf.elim) (fun _ _ => trivial) HT2.out (Below.refl _ _) hsw (by have := HLN.out; omega) ?_; intro v8 W8 h8 hb8 hg8 _; have HF8 := Aside0.mk (show Fr (fun _ => False) W1 W8 from HF1.out.grown hg8 (fun k hk hlt => by have := Kd.R_base HT2.out k hk; omega)); have HT8 := Aside0.mk h8; clear h8 hb8 hg8))
    rw [HX.out, ← HTK.out] at HT8; exact ⟨⟨i + 1, by go_num, HLT.out, HT8, HF8⟩, by have := HLT.out; simp [intOf]; omega⟩
   case pos =>
   obtain ⟨adx, hadx, hx⟩ := Kd.at_int (Kd.C_below HC1.out HFK.out.to_below) (k : Int) (by omega) (by omega); subst hadx; obtain ⟨hx1, hx2⟩ := HPI.out.syms k hkl; have HSN := Aside0.mk (HST.out.trans (symsL_drop G hkl t)); have hnz := nm_4096 HC.out (rd pr.f1 (k : Int)); simp only [Int.toNat_natCast] at hx; generalize rd pr.f1 (k : Int) = x at hx hx1 hx2 HSN hnz; have hz2 : (t ++ ((⟨#[32]⟩ : ByteArray) ++ nm G x)).size ≤ 4098 + 4097 * (k + 1) := by
    rw [ByteArray.size_append, ByteArray.size_append]; have : (⟨#[32]⟩ : ByteArray).size = 1 := rfl; omega
   have HAS := Aside0.mk (show (t ++ (⟨#[32]⟩ : ByteArray)) ++ nm G x = t ++ ((⟨#[32]⟩ : ByteArray) ++ nm G x) from ByteArray.append_assoc); have hsm1 : ¬ (9223372036854775807 < t.size + 1) := by omega
   have hsm2 : ¬ (9223372036854775807 < t.size + 1 + (nm G x).size) := by omega
   clear HST; go_wp2_with (fail)
   refine wp_region_last_drew (S := fun w' => w'.cell? ⟨w.heap.size, 0, none⟩ = some (.slice A0 G.kinds.length c0) ∧ w'.cell? ⟨w.heap.size, 1, none⟩ = some (.slice A1 G.precs.length c1) ∧ w'.cell? ⟨w.heap.size, 2, none⟩ = some (.slice (some adr) G.rules.length c2) ∧ w'.cell? ⟨w.heap.size, 3, none⟩ = some (.slice (some ad) G.prods.length c3) ∧ w'.cell? ⟨w.heap.size, 4, none⟩ = some (.int .i64 G.start) ∧ w'.cell? ⟨(ad.add (i * 7)).block, (ad.add (i * 7)).off + 1, none⟩ = some (.slice (some adx) pr.f1.length d1) ∧ w'.cell? (adx.add k) = some (.int .i64 x)) (ds := []) (by kernel_rfl) ⟨e0, e1, e2, e3, e4, y1, hx⟩ (fun hHeld => ?_); refine tk 0 ?_; refine tk 1 ?_; refine tk 2 ?_; refine tk 3 ?_; refine tk 4 ?_; refine tk 5 ?_; refine tk 6 ?_; refine tk 7 ?_; refine tk 8 ?_; refine tk 9 ?_; refine tk 10 ?_; refine tk 11 ?_; refine on 12 (fun K hK => ?_); go_simp
   refine (symbol_calls _ G A0 A1 (some adr) (some ad) c0 c1 c2 c3 (HG.out.go (HFK.out.trans (Fr.refl (fun _ => False) wr).drew (fun _ _ h => h))) hK2 hR2 x (by omega) (by omega)).mono ?_; rintro e W8 ⟨rfl, hF8⟩; have HF8 := Aside0.mk (((Fr.refl (fun _ => False) wr).drew).trans hF8 (fun _ _ h => h)); have HGW := Aside0.mk (HW1.out.go (HF1.out.trans HF8.out (fun _ _ h => h))); obtain ⟨f0, f1, f2, f3, f4⟩ := HGW.out.cells; have v1 := HF8.out.cell y1 id; have v2 := HF8.out.cell hx id; clear hF8; dsimp only
   refine hK.out _ _ ⟨f0, f1, f2, f3, f4, v1, v2⟩ (fun hHeld => ?_); clear hK K; try simp only [Act.put, List.setIfInBounds_toArray, List.set_cons_zero, List.set_cons_succ]
   refine tk 13 ?_; refine tk 14 ?_; refine dn ?_; have HF9 := Aside0.mk (HF.out.trans HF8.out (fun _ _ h => h)); rw [← HAS.out] at HSN hz2; go_wp2_with (fail)
   exact ⟨⟨k + 1, _, rfl, by go_num, hkl, hz2, HSN, HF9⟩, by simp [intOf]; omega⟩
end Go.Proofs.Ytdngobjcdajogaa.Gram
namespace Go.Proofs.Ytdngobjcdajogaa.Gram
open Go.RowKit Go.Proofs.YtdngobjcdajogaaW.PrintWords Go.Proofs.YtdngobjcdajogaaW.PrintLast Go.Proofs.YtdngobjcdajogaaW.PrintMore Go.Proofs.Ytdngobjcdajogaa.Fr Go.Proofs.Ytdngobjcdajogaa.PGramFirsts Go.Proofs.Ytdngobjcdajogaa.TextSet
open Classical in
noncomputable def trimT (G : Gr) : Gr := if CheckOk G ∧ rdOf false (proL G) G.start = true then trimG G else emptyG
open Classical in
noncomputable def trimC (G : Gr) : Int := if CheckOk G then (if rdOf false (proL G) G.start = true then 0 else 8) else 130
open Classical in
noncomputable def lineR (G : Gr) : List ByteArray := if CheckOk G then G.prods.map (lineT G) else []
open Classical in
noncomputable def lineC (G : Gr) : Int := if CheckOk G then 0 else 130
theorem emptyG_at (w : World) : GAt w emptyG none none none none 0 0 0 0 :=
 ⟨Kd.C_nil _ _, Kd.C_nil _ _, Kd.C_nil _ _, Kd.C_nil _ _, Nat.le_refl _, Nat.le_refl _, Nat.le_refl _, Nat.le_refl _, fun s hs => (List.not_mem_nil hs).elim, fun s hs => (List.not_mem_nil hs).elim⟩
def TrimForm (G : Gr) (e : Ending) (w' : World) : Prop := ∃ KA PA RA DA kc pc rc dc, e = .returned (.tuple #[.agg (rowG (trimT G) KA PA RA DA kc pc rc dc), .int .i64 (trimC G)]) ∧ GAt w' (trimT G) KA PA RA DA kc pc rc dc
theorem trim_no {G : Gr} (h : ¬ CheckOk G) (w : World) : TrimForm G (.returned (.tuple #[.agg zP, .int .i64 130])) w :=
 ⟨none, none, none, none, 0, 0, 0, 0, by rw [show trimT G = emptyG from if_neg (fun k => h k.1), show trimC G = 130 from if_neg h]; rfl, by rw [show trimT G = emptyG from if_neg (fun k => h k.1)]; exact emptyG_at w⟩
theorem trim_none {G : Gr} (h : CheckOk G) (k : rdOf false (proL G) G.start = false) (w : World) : TrimForm G (.returned (.tuple #[.agg zP, .int .i64 8])) w := by
 have h1 : trimT G = emptyG := if_neg (fun h2 => by rw [k] at h2; cases h2.2); have h2 : trimC G = 8 := by
  unfold trimC; rw [if_pos h, if_neg (by rw [k]; decide)]
 exact ⟨none, none, none, none, 0, 0, 0, 0, by rw [h1, h2]; rfl, by rw [h1]; exact emptyG_at w⟩
theorem trim_yes {G : Gr} (h : CheckOk G) (k : rdOf false (proL G) G.start = true) {w : World} {KA PA RA DA : Option Addr} {kc pc rc dc : Nat} (hg : GAt w (trimG G) KA PA RA DA kc pc rc dc) : TrimForm G (.returned (.tuple #[.agg (rowG (trimG G) KA PA RA DA kc pc rc dc), .int .i64 0])) w := by
 have h1 : trimT G = trimG G := if_pos ⟨h, k⟩; have h2 : trimC G = 0 := by
  unfold trimC; rw [if_pos h, if_pos k]
 exact ⟨KA, PA, RA, DA, kc, pc, rc, dc, by rw [h1, h2], by rw [h1]; exact hg⟩
theorem trim_form {w w' : World} {G : Gr} {A0 A1 A2 A3 : Option Addr} {c0 c1 c2 c3 : Nat} {e : Ending} (hG : GAt w G A0 A1 A2 A3 c0 c1 c2 c3) (h : TrimPost w G e w') : TrimForm G e w' := by
 rcases h with ⟨h1, rfl⟩ | ⟨h1, h2, rfl⟩ | ⟨h1, h2, KA, PA, RA, DA, kc, pc, rc, dc, rfl, hK, hP, hR, hD⟩
 · exact trim_no h1 _
 · exact trim_none h1 h2 _
 · exact trim_yes h1 h2 (trim_at hG hK hP hR hD)
theorem rtrim_form {w w' : World} {G : Gr} {e : Ending} (h : RTrimPost w G e w') : TrimForm G e w' := by
 rcases h with ⟨h1, rfl⟩ | ⟨h1, h2, rfl⟩ | ⟨h1, h2, KA, PA, RA, DA, kc, pc, rc, dc, rfl, hD⟩
 · exact trim_no h1 _
 · exact trim_none h1 h2 _
 · exact trim_yes h1 h2 hD
theorem trimT_same (G : Gr) : SameOk (trimT G) := by
 unfold trimT; split
 · rename_i h
   exact (trim_check h.1 h.2).same
 · exact emptyG_same
theorem lineR_len {G : Gr} : (lineR G).length ≤ 4096 := by
 unfold lineR; split
 · rename_i h
   rw [List.length_map]; exact (base_true h.base).2.2.2.2.2
 · exact Nat.zero_le _
theorem lines_form {w w' : World} {G : Gr} {e : Ending} (h : LinesPost w G e w') : ∃ A c, e = .returned (.tuple #[.slice A (lineR G).length c, .int .i64 (lineC G)]) ∧ Kd.string.C w' A (lineR G).length (lineR G) ∧ (lineR G).length ≤ c := by
 rcases h with ⟨h1, rfl⟩ | ⟨h1, v, rfl, hR⟩
 · rw [show lineR G = [] from if_neg h1, show lineC G = 130 from if_neg h1]
   exact ⟨none, 0, rfl, Kd.C_nil _ _, Nat.le_refl _⟩
 · rw [show lineR G = G.prods.map (lineT G) from if_pos h1, show lineC G = 0 from if_pos h1]
   obtain ⟨A, c, rfl⟩ := Kd.R_slice hR; exact ⟨A, c, rfl, (Kd.R_reads' hR).2.2, (Kd.R_reads' hR).2.1⟩
set_option maxRecDepth 100000 in
theorem sametexts_calls (w : World) (A B : Option Addr) (n c d : Nat) (l : List ByteArray) (hn : n = l.length) (h : Kd.string.C w A l.length l) (hc : l.length ≤ c) (h2 : Kd.string.C w B l.length l) (hd : l.length ≤ d) (hl : l.length ≤ 1000000) :
 Calls Try.prog 23 #[.slice A n c, .slice B n d] w fun e w' => e = .returned (.bool true) ∧ Fr (fun _ => False) w w' := by
 have HX := Aside0.mk (samets_calls w A B n n c d l hn hn h hc h2 hd hl); clear h hc h2 hd hl hn; go_enter Try.func23, Try.ntmps23
 go_wp2_with (fail)
 refine HX.out.mono ?_; rintro e W1 ⟨rfl, hF⟩; go_wp2_with (fail)
 go_ret
 exact ⟨rfl, hF⟩
set_option maxHeartbeats 8000000 in
set_option maxRecDepth 100000 in
theorem trims_calls (w : World) (G : Gr) (A0 A1 A2 A3 : Option Addr) (c0 c1 c2 c3 : Nat) (h : GAt w G A0 A1 A2 A3 c0 c1 c2 c3) :
 Calls Try.prog 7 #[.agg (rowG G A0 A1 A2 A3 c0 c1 c2 c3)] w fun e w' => e = .returned (.bool true) ∧ Fr (fun _ => False) w w' := by
 have hu := Try.underlying26; have HG := Aside0.mk h; have HB0 := Aside0.mk (blk_new w (.cells (rowG G A0 A1 A2 A3 c0 c1 c2 c3) 26)); have HF0 := Aside0.mk ((Fr.refl (fun _ => False) w).alloc (.cells (rowG G A0 A1 A2 A3 c0 c1 c2 c3) 26)); clear h; go_enter Try.func7, Try.ntmps7
 go_upto_region 1 with fail
 generalize w.alloc (.cells (rowG G A0 A1 A2 A3 c0 c1 c2 c3) 26) = W0 at HB0 HF0 ⊢; generalize w.heap.size = b at HB0 ⊢; obtain ⟨e0, e1, e2, e3, e4⟩ := boxG HB0.out; go_wp2_with (fail)
 refine (trim_calls W0 G A0 A1 A2 A3 c0 c1 c2 c3 (HG.out.go HF0.out)).mono ?_; rintro e W1 ⟨hT, hF1⟩; obtain ⟨KA, PA, RA, DA, kc, pc, rc, dc, rfl, hg1⟩ := trim_form (HG.out.go HF0.out) hT; have HTS := Aside0.mk (trimT_same G); have HRF := Aside0.mk (show ∀ {w w' : World} {e : Ending}, RTrimPost w G e w' → ∃ KA PA RA DA kc pc rc dc, e = .returned (.tuple #[.agg (rowG (trimT G) KA PA RA DA kc pc rc dc), .int .i64 (trimC G)]) ∧ GAt w' (trimT G) KA PA RA DA kc pc rc dc from fun h => rtrim_form h); generalize trimT G = T at hg1 HTS HRF ⊢; generalize trimC G = tc at HRF ⊢; have HF1 := Aside0.mk (hF1.alloc (.cells (rowG T KA PA RA DA kc pc rc dc) 26)); have HB1 := Aside0.mk (blk_new W1 (.cells (rowG T KA PA RA DA kc pc rc dc) 26)); have HG1 := Aside0.mk (hg1.go ((Fr.refl (fun _ => False) W1).alloc (.cells (rowG T KA PA RA DA kc pc rc dc) 26))); clear hT hF1 hg1 e0 e1 e2 e3 e4; go_upto_region 2 with fail
 generalize W1.alloc (.cells (rowG T KA PA RA DA kc pc rc dc) 26) = W2 at HF1 HB1 HG1 ⊢; generalize W1.heap.size = b1 at HB1 ⊢; have HF2 := Aside0.mk (HF0.out.trans HF1.out (fun _ _ h => h)); have HB2 := Aside0.mk (HF1.out.blk HB0.out id); clear HF0 HB0 HF1; obtain ⟨e0, e1, e2, e3, e4⟩ := boxG HB2.out; go_wp2_with (fail)
 refine (rtrim_calls W2 G A0 A1 A2 A3 c0 c1 c2 c3 (HG.out.go HF2.out)).mono ?_; rintro e W3 ⟨hT, hF3⟩; obtain ⟨KB, PB, RB, DB, kb, pb, rb, db, rfl, hg3⟩ := HRF.out hT; have HF3 := Aside0.mk (hF3.alloc (.cells (rowG T KB PB RB DB kb pb rb db) 26)); have HB3 := Aside0.mk (blk_new W3 (.cells (rowG T KB PB RB DB kb pb rb db) 26)); have HG3 := Aside0.mk (hg3.go ((Fr.refl (fun _ => False) W3).alloc (.cells (rowG T KB PB RB DB kb pb rb db) 26))); clear hT hF3 hg3 e0 e1 e2 e3 e4 HRF; go_upto_region 3 with fail
 generalize W3.alloc (.cells (rowG T KB PB RB DB kb pb rb db) 26) = W4 at HF3 HB3 HG3 ⊢; generalize W3.heap.size = b3 at HB3 ⊢; have HF4 := Aside0.mk (HF2.out.trans HF3.out (fun _ _ h => h)); have HB4 := Aside0.mk (HF3.out.blk HB2.out id); have HBA := Aside0.mk (HF3.out.blk HB1.out id); have HGA := Aside0.mk (HG1.out.go HF3.out); clear HF2 HB2 HF3 HB1 HG1; obtain ⟨e0, e1, e2, e3, e4⟩ := boxG HB4.out; go_wp2_with (fail)
 refine (lines_calls W4 G A0 A1 A2 A3 c0 c1 c2 c3 (HG.out.go HF4.out)).mono ?_; rintro e W5 ⟨hL, hF5⟩; obtain ⟨LA, lc, rfl, hLC, hll⟩ := lines_form hL; have HF5 := Aside0.mk (HF4.out.trans hF5 (fun _ _ h => h)); have HB5 := Aside0.mk (hF5.blk HB4.out id); have HBA5 := Aside0.mk (hF5.blk HBA.out id); have HBB5 := Aside0.mk (hF5.blk HB3.out id); have HGA5 := Aside0.mk (HGA.out.go hF5); have HGB5 := Aside0.mk (HG3.out.go hF5); have HLC := Aside0.mk hLC; clear hL hF5 hLC HF4 HB4 HBA HB3 HGA HG3 e0 e1 e2 e3 e4; go_upto_region 4 with fail
 obtain ⟨e0, e1, e2, e3, e4⟩ := boxG HB5.out; go_wp2_with (fail)
 refine (rlines_calls W5 G A0 A1 A2 A3 c0 c1 c2 c3 (HG.out.go HF5.out)).mono ?_; rintro e W6 ⟨hL, hF6⟩; obtain ⟨MA, mc, rfl, hMC, hml⟩ := lines_form hL; have HF6 := Aside0.mk (HF5.out.trans hF6 (fun _ _ h => h)); have HBA6 := Aside0.mk (hF6.blk HBA5.out id); have HBB6 := Aside0.mk (hF6.blk HBB5.out id); have HGA6 := Aside0.mk (HGA5.out.go hF6); have HGB6 := Aside0.mk (HGB5.out.go hF6); have HLC6 := Aside0.mk (Kd.C_below HLC.out hF6.to_below); have HMC6 := Aside0.mk hMC; have HLL := Aside0.mk (lineR_len (G := G)); have HLc := Aside0.mk hll; have HMc := Aside0.mk hml; clear hL hF6 hMC HF5 HB5 HBA5 HBB5 HGA5 HGB5 HLC e0 e1 e2 e3 e4 hll hml; generalize lineR G = ls at HLC6 HMC6 HLL HLc HMc ⊢; generalize lineC G = lcode; obtain ⟨ln, hln⟩ : ∃ n, ls.length = n := ⟨_, rfl⟩; simp only [hln]; have HLN := Aside0.mk hln.symm; clear hln; go_upto_region 5 with fail
 obtain ⟨f0, f1, f2, f3, f4⟩ := boxG HBA6.out; obtain ⟨g0, g1, g2, g3, g4⟩ := boxG HBB6.out; go_wp2_with (fail)
 refine (sameG_calls W6 T KA PA RA DA KB PB RB DB kc pc rc dc kb pb rb db HGA6.out HGB6.out HTS.out).mono ?_; rintro e W7 ⟨rfl, hF7⟩; have HF7 := Aside0.mk (HF6.out.trans hF7 (fun _ _ h => h)); have HL7 := Aside0.mk (Kd.C_below HLC6.out hF7.to_below); have HM7 := Aside0.mk (Kd.C_below HMC6.out hF7.to_below); clear hF7 f0 f1 f2 f3 f4 g0 g1 g2 g3 g4 HBA6 HBB6 HGA6 HGB6 HLC6 HMC6 HF6; go_wp2_with (fail)
 refine (sametexts_calls W7 LA MA ln lc mc ls HLN.out HL7.out HLc.out HM7.out HMc.out (by have := HLL.out; omega)).mono ?_; rintro e W8 ⟨rfl, hF8⟩; have HF8 := Aside0.mk (HF7.out.trans hF8 (fun _ _ h => h)); clear hF8 HF7 HL7 HM7; go_wp2_with (fail)
 refine (awake_calls W8).mono ?_; rintro e W9 ⟨rfl, hF9⟩; have HF9 := Aside0.mk (HF8.out.trans hF9 (fun _ _ h => h)); clear hF9 HF8; go_wp2_with (fail)
 go_ret
 exact ⟨rfl, HF9.out⟩
end Go.Proofs.Ytdngobjcdajogaa.Gram
