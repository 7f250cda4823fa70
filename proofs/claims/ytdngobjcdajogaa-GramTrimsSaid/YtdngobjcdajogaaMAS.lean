/-
Which rules the start leads to: gram.reached, walked, as gram.Trim calls it.
-/
import Derived.Test.YtdngobjcdajogaaMAR
import Derived.Test.YtdngobjcdajogaaMAL
import Derived.Test.YtdngobjcdajogaaMAK
set_option linter.unusedSimpArgs false
set_option linter.unusedVariables false
namespace Go.Proofs.Ytdngobjcdajogaa.Gram
open Go.RowKit Go.Proofs.YtdngobjcdajogaaW.PrintWords Go.Proofs.YtdngobjcdajogaaW.PrintLast Go.Proofs.YtdngobjcdajogaaW.PrintMore Go.Proofs.Ytdngobjcdajogaa.Fr Go.Proofs.Ytdngobjcdajogaa.PGramFirsts Go.Proofs.Ytdngobjcdajogaa.TextSet
set_option maxHeartbeats 4000000 in
set_option maxRecDepth 100000 in
theorem reached_trim (w : World) (p1 p2 : Nat) (G : Gr) (A0 A1 A2 A3 : Option Addr) (c0 c1 c2 c3 : Nat) (h : GAt w G A0 A1 A2 A3 c0 c1 c2 c3) (hc : CheckOk G) (may : Nat → Bool)
 (hmay : ∀ (i : Nat) (W : World) (B1 B6 : Option Addr) (d1 d6 : Nat), i < G.prods.length → Fr (fun _ => False) w W → k55.C w B6 (rd_T57 G.prods (i : Int)).f3.f3.length (rd_T57 G.prods (i : Int)).f3.f3 → kI.C w B1 (rd_T57 G.prods (i : Int)).f1.length (rd_T57 G.prods (i : Int)).f1 → (rd_T57 G.prods (i : Int)).f1.length ≤ d1 →
  Calls Try.prog 32 #[.agg #[.int .i64 (rd_T57 G.prods (i : Int)).f0, .slice B1 (rd_T57 G.prods (i : Int)).f1.length d1, .int .i64 (rd_T57 G.prods (i : Int)).f2, .int .i64 (rd_T57 G.prods (i : Int)).f3.f0, .int .i64 (rd_T57 G.prods (i : Int)).f3.f1, .string (rd_T57 G.prods (i : Int)).f3.f2, .slice B6 (rd_T57 G.prods (i : Int)).f3.f3.length d6], .pointer (some ⟨p1, 0, none⟩), .pointer (some ⟨p2, 0, none⟩)] W fun e w' => e = .returned (.bool (may i)) ∧ Fr (fun _ => False) W w') :
 Calls Try.prog 34 #[.agg #[.slice A0 G.kinds.length c0, .slice A1 G.precs.length c1, .slice A2 G.rules.length c2, .slice A3 G.prods.length c3, .int .i64 G.start], .func (.func 32) #[] #[.pointer (some ⟨p1, 0, none⟩), .pointer (some ⟨p2, 0, none⟩)]] w fun e w' =>
  ∃ v, e = .returned v ∧ kB.R 4 w' (w.heap.size + 1) (fun _ => True) v (reachL G may) ∧ Fr (fun _ => False) w w' := by
 have hu := Try.underlying26; have hu2 := Try.underlying57; have hm3 := Kd.C_max h.prods; have hR1 := (base_true hc.base).2.1; have hR2 := (base_true hc.base).2.2.1; have hs0 := (base_true hc.base).2.2.2.1; have hs1 := (base_true hc.base).2.2.2.2.1; have hQ2 := (base_true hc.base).2.2.2.2.2; have hK2 := hc.kinds.max; have HG := Aside0.mk h; have HC := Aside0.mk hc; have HM := Aside0.mk hmay; have HB0 := Aside0.mk (RcSt.begin may hs0 hs1); have HW := Aside0.mk (show ChkW w (w.alloc (.cells #[.slice A0 G.kinds.length c0, .slice A1 G.precs.length c1, .slice A2 G.rules.length c2, .slice A3 G.prods.length c3, .int .i64 G.start] 26)) G A0 A1 A2 A3 c0 c1 c2 c3 from ⟨blk_new w _, (Fr.refl _ w).alloc _⟩); have hws : (w.alloc (.cells #[.slice A0 G.kinds.length c0, .slice A1 G.precs.length c1, .slice A2 G.rules.length c2, .slice A3 G.prods.length c3, .int .i64 G.start] 26)).heap.size = w.heap.size + 1 := by simp only [World.size_alloc]
 clear h hc hmay; go_enter Try.func34, Try.ntmps34
 go_upto_region 1 with fail
 generalize w.alloc (.cells #[.slice A0 G.kinds.length c0, .slice A1 G.precs.length c1, .slice A2 G.rules.length c2, .slice A3 G.prods.length c3, .int .i64 G.start] 26) = W0 at HW hws ⊢; obtain ⟨e0, e1, e2, e3, e4⟩ := HW.out.cells; go_upto_region 2 with (at_make; refine Kd.R_make kB (w0 := W0) W0.heap.size 4 rfl (N := 15) rfl 36 _ _ rfl (G.rules.length : Int) rfl rfl Try.underlying36 (.bool false) 1 info4 rfl (by decide) (by omega) false (ok := fun _ => True) (okp := fun _ => True) rfl (fun _ hk => hk) trivial (by omega) (by omega) (Below.refl _ _) (Nat.le_refl _) ?_; intro v1 W1 h1 hB1 hg1 hb1; have HX := Aside0.mk (show CW w W1 G A0 A1 A2 A3 c0 c1 c2 c3 v1 (List.replicate G.rules.length false) from ⟨HW.out.go (Fr.of_below hB1), by simpa [hws] using h1⟩); clear h1 hB1 hg1)
 obtain ⟨gb, cap, rfl⟩ := marks_form HX.out.row (by simp; exact hR1); simp only [List.length_replicate] at HX hb1 ⊢; clear HW e0 e1 e2 e3 e4; obtain ⟨e0, e1, e2, e3, e4⟩ := HX.out.chk.cells; obtain ⟨hx0, hfz⟩ := HX.out.at (by simp) hs0 hs1; have HX1 := Aside0.mk (HX.out.mark (by simp) G.start).1; obtain ⟨f0, f1, f2, f3, f4⟩ := HX1.out.chk.cells; go_upto_region 3 with fail
 clear e0 e1 e2 e3 e4 hx0 hfz HX; have hw1 : w.heap.size + 1 ≤ (W1.setCell ⟨gb, G.start.toNat, none⟩ (.bool true)).heap.size := blk_lt HX1.out.chk.box; generalize W1.setCell ⟨gb, G.start.toNat, none⟩ (.bool true) = W2 at HX1 hw1 f0 f1 f2 f3 f4 ⊢; have HQ1 := Aside0.mk (queue_one G.start hw1); have HX2 := Aside0.mk (HX1.out.go ((Fr.refl (fun _ => False) W2).alloc (.cells #[.int .i64 G.start] 3))); have HS2 := Aside0.mk HB0.out.1; have hcnt := HB0.out.2; clear HX1; go_wp2_with (fail)
 go_loopg [6] G.rules.length (fun k a W => ∃ (marks : List Bool) (l : List Int), marks.count false + l.length ≤ k ∧ k ≤ G.rules.length ∧ Aside0 (CW w W G A0 A1 A2 A3 c0 c1 c2 c3 (.slice (some ⟨gb, 0, none⟩) G.rules.length cap) marks) ∧ Aside0 (kI.Q 3 W (w.heap.size + 1) (fun _ => True) a l) ∧ Aside0 (RcSt G may marks l))
 case atStart => exact ⟨_, _, hcnt, Nat.le_refl _, HX2, HQ1, HS2⟩
 case round =>
  clear HX2 HQ1 HS2 HB0 hcnt f0 f1 f2 f3 f4; obtain ⟨marks, l, hk, hkR, HX, HQ, HS⟩ := hrel; cases l with
  | nil =>
   have HE := Aside0.mk (HS.out.done hs0); have HRW := Aside0.mk (show kB.R 4 wr (w.heap.size + 1) (fun _ => True) (.slice (some ⟨gb, 0, none⟩) G.rules.length cap) (reachL G may) by have := HX.out.row; rwa [HE.out] at this); obtain ⟨A, c, rfl, _⟩ := Kd.Q_slice HQ.out; simp only [List.length_nil]; go_wp2_with (fail)
   go_ret
   exact ⟨_, rfl, HRW.out, HX.out.chk.fr⟩
  | cons b tl =>
   obtain ⟨g, o, c, rfl, hh⟩ := queue_head HQ.out; obtain ⟨e0, e1, e2, e3, e4⟩ := HX.out.chk.cells; have hpos : (0 : Int) < ((tl.length + 1 : Nat) : Int) := by omega
   have hkk : marks.count false + (b :: tl).length ≤ gk := hk; go_wp2_with (fail)
   go_loopw [31, 6] (fun a q W => ∃ (i : Nat) (marks : List Bool) (tl : List Int), a = .int .i64 i ∧ i ≤ G.prods.length ∧ marks.count false + (b :: tl).length ≤ gk ∧ Aside0 (CW w W G A0 A1 A2 A3 c0 c1 c2 c3 (.slice (some ⟨gb, 0, none⟩) G.rules.length cap) marks) ∧ Aside0 (kI.Q 3 W (w.heap.size + 1) (fun _ => True) q (b :: tl)) ∧ Aside0 (RcSt G may marks (b :: tl)) ∧ Aside0 (∀ j, j < i → Did G may marks b j)) (fun a _ _ => G.prods.length - (intOf a).toNat)
   case atStart => exact ⟨0, marks, tl, rfl, Nat.zero_le _, hkk, HX, HQ, HS, ⟨fun j hj => absurd hj (by omega)⟩⟩
   case round =>
    clear HX HQ HS hk hkk hh e0 e1 e2 e3 e4 hpos; obtain ⟨i, marks, tl, rfl, hi, hk, HX, HQ, HS, HD⟩ := hrel; by_cases hlt : i < G.prods.length
    · have HLT := Aside0.mk hlt
      obtain ⟨ad, B1, d1, B6, d6, rfl, x0, x1, x2, x3, x4, x5, x6, hl1, hC1, hl6, hC6⟩ := at_T57 HG.out.prods (i : Int) (by omega) (by omega); simp only [Int.toNat_natCast] at x0 x1 x2 x3 x4 x5 x6; have y0 := HX.out.chk.fr.cell x0 id; have y1 := HX.out.chk.fr.cell x1 id; have y2 := HX.out.chk.fr.cell x2 id; have y3 := HX.out.chk.fr.cell x3 id; have y4 := HX.out.chk.fr.cell x4 id; have y5 := HX.out.chk.fr.cell x5 id; have y6 := HX.out.chk.fr.cell x6 id; have HC1 := Aside0.mk hC1; have HMI := Aside0.mk (fun W hF => HM.out i W B1 B6 d1 d6 hlt hF hC6 hC1 hl1); have HPI := Aside0.mk (HC.out.prodsOk i hlt); clear x0 x1 x2 x3 x4 x5 x6 hC1 hC6 hl6 hl1; go_upto_region 9 with fail
      have HXA := Aside0.mk (HX.out.go ((Fr.refl (fun _ => False) wr).alloc (.cells #[.int .i64 (rd_T57 G.prods (i : Int)).f0, .slice B1 (rd_T57 G.prods (i : Int)).f1.length d1, .int .i64 (rd_T57 G.prods (i : Int)).f2, .int .i64 (rd_T57 G.prods (i : Int)).f3.f0, .int .i64 (rd_T57 G.prods (i : Int)).f3.f1, .string (rd_T57 G.prods (i : Int)).f3.f2, .slice B6 (rd_T57 G.prods (i : Int)).f3.f3.length d6] 57))); have HQA := Aside0.mk (Kd.Q_alloc HQ.out (.cells #[.int .i64 (rd_T57 G.prods (i : Int)).f0, .slice B1 (rd_T57 G.prods (i : Int)).f1.length d1, .int .i64 (rd_T57 G.prods (i : Int)).f2, .int .i64 (rd_T57 G.prods (i : Int)).f3.f0, .int .i64 (rd_T57 G.prods (i : Int)).f3.f1, .string (rd_T57 G.prods (i : Int)).f3.f2, .slice B6 (rd_T57 G.prods (i : Int)).f3.f3.length d6] 57)); have HPB := Aside0.mk (blk_new wr (.cells #[.int .i64 (rd_T57 G.prods (i : Int)).f0, .slice B1 (rd_T57 G.prods (i : Int)).f1.length d1, .int .i64 (rd_T57 G.prods (i : Int)).f2, .int .i64 (rd_T57 G.prods (i : Int)).f3.f0, .int .i64 (rd_T57 G.prods (i : Int)).f3.f1, .string (rd_T57 G.prods (i : Int)).f3.f2, .slice B6 (rd_T57 G.prods (i : Int)).f3.f3.length d6] 57)); generalize wr.alloc (.cells #[.int .i64 (rd_T57 G.prods (i : Int)).f0, .slice B1 (rd_T57 G.prods (i : Int)).f1.length d1, .int .i64 (rd_T57 G.prods (i : Int)).f2, .int .i64 (rd_T57 G.prods (i : Int)).f3.f0, .int .i64 (rd_T57 G.prods (i : Int)).f3.f1, .string (rd_T57 G.prods (i : Int)).f3.f2, .slice B6 (rd_T57 G.prods (i : Int)).f3.f3.length d6] 57) = W5 at HXA HPB HQA ⊢; generalize wr.heap.size = q at HPB ⊢; clear y0 y1 y2 y3 y4 y5 y6 HX HQ; have hro := HPI.out.2.2.2; have hrl := HPI.out.2.2.1; have hb0 := (HS.out.que b List.mem_cons_self).1; have hlf0 := HPI.out.1; have HSN := Aside0.mk (HS.out.snd b.toNat (by rw [Int.toNat_of_nonneg hb0]; exact (HS.out.que b List.mem_cons_self).2.2)); have HRC := Aside0.mk (show (rd_T57 G.prods (i : Int)).f0 = b → may i = true → ∀ x, x ∈ (rd_T57 G.prods (i : Int)).f1 → (G.kinds.length : Int) ≤ x → Rch G may (x - G.kinds.length).toNat from fun e hm x hx hk => Rch.next (a := b.toNat) (i := i) HSN.out HLT.out (by rw [Int.toNat_of_nonneg hb0]; exact e) hm hx hk); have HDN := Aside0.mk (show ∀ marks : List Bool, ((rd_T57 G.prods (i : Int)).f0 = b → may i = true → ∀ x, x ∈ (rd_T57 G.prods (i : Int)).f1 → Marked G marks x) → Did G may marks b i from fun _ h => h); rw [show rd_T57 G.prods i = rd_T57 G.prods (i : Int) from rfl] at hro hrl hlf0; have HRO := Aside0.mk hro; clear hro HSN hlf0; have HPI : Aside0 (0 ≤ (rd_T57 G.prods (i : Int)).f0 ∧ (rd_T57 G.prods (i : Int)).f0 < G.rules.length) := ⟨HPI.out.1, HPI.out.2.1⟩; generalize rd_T57 G.prods (i : Int) = pr at HPB HMI HPI HRC HDN HRO hrl HC1 ⊢; obtain ⟨g, o, c, rfl, hh⟩ := queue_head HQA.out; have z0 := (blk_cell HPB.out 0).trans (show _ = some (Value.int .i64 pr.f0) from rfl); have z1 := (blk_cell HPB.out 1).trans (show _ = some (Value.slice B1 pr.f1.length d1) from rfl); have z2 := (blk_cell HPB.out 2).trans (show _ = some (Value.int .i64 pr.f2) from rfl); have z3 := (blk_cell HPB.out 3).trans (show _ = some (Value.int .i64 pr.f3.f0) from rfl); have z4 := (blk_cell HPB.out 4).trans (show _ = some (Value.int .i64 pr.f3.f1) from rfl); have z5 := (blk_cell HPB.out 5).trans (show _ = some (Value.string pr.f3.f2) from rfl); have z6 := (blk_cell HPB.out 6).trans (show _ = some (Value.slice B6 pr.f3.f3.length d6) from rfl); have hn9 : ∀ e : Bool, may i = e → may i = e := fun _ h => h
      by_cases hl : pr.f0 = b
      · rw [hl] at z0 HMI HRC HDN
        cases hmi : may i with
        | false =>
         have HDI := Aside0.mk (show Did G may marks b i from HDN.out marks (fun _ h => by rw [hmi] at h; cases h)); rw [hmi] at HMI; go_wp2_with (fail)
         go_region_held3 (fun w' => w'.cell? ⟨q, 0, none⟩ = some (.int .i64 b) ∧ w'.cell? ⟨q, 1, none⟩ = some (.slice B1 pr.f1.length d1) ∧ w'.cell? ⟨q, 2, none⟩ = some (.int .i64 pr.f2) ∧ w'.cell? ⟨q, 3, none⟩ = some (.int .i64 pr.f3.f0) ∧ w'.cell? ⟨q, 4, none⟩ = some (.int .i64 pr.f3.f1) ∧ w'.cell? ⟨q, 5, none⟩ = some (.string pr.f3.f2) ∧ w'.cell? ⟨q, 6, none⟩ = some (.slice B6 pr.f3.f3.length d6) ∧ w'.cell? ⟨g, o, none⟩ = some (.int .i64 b)) (go_keep)
          (first | (go_at_call 32; refine (HMI.out _ (HXA.out.chk.fr.trans ((Fr.refl (fun _ => False) W5).drew) (fun _ _ hf => hf))).mono ?_; rintro e W6 ⟨rfl, hF6⟩; have HF6 := Aside0.mk (((Fr.refl (fun _ => False) W5).drew).trans hF6 (fun _ _ hf => hf)); have HPB6 := Aside0.mk (HF6.out.blk HPB.out id); have t0 := HF6.out.cell z0 id; have t1 := HF6.out.cell z1 id; have t2 := HF6.out.cell z2 id; have t3 := HF6.out.cell z3 id; have t4 := HF6.out.cell z4 id; have t5 := HF6.out.cell z5 id; have t6 := HF6.out.cell z6 id; have th := HF6.out.cell hh id; clear hF6))
         have HX6 := Aside0.mk (HXA.out.go HF6.out); have HQ6 := Aside0.mk (Kd.Q_below HQA.out HF6.out.to_below); have HD6 := Aside0.mk (show ∀ j, j < i + 1 → Did G may marks b j from fun j hj => by
          by_cases ej : j = i
          · rw [ej]; exact HDI.out
          · exact HD.out j (by omega))
         go_wp2_with (fail)
         exact ⟨⟨i + 1, marks, tl, by go_num, HLT.out, hk, HX6, HQ6, HS, HD6⟩, by have := HLT.out; simp [intOf]; omega⟩
        | true =>
         rw [hmi] at HMI HRC; have HDN2 := Aside0.mk (show ∀ marks : List Bool, (∀ x, x ∈ pr.f1 → Marked G marks x) → Did G may marks b i from fun m h => HDN.out m (fun _ _ => h)); have HRC2 := Aside0.mk (show ∀ x, x ∈ pr.f1 → (G.kinds.length : Int) ≤ x → Rch G may (x - G.kinds.length).toNat from HRC.out rfl rfl); clear HDN HRC hn9; go_wp2_with (fail)
         go_region_held3 (fun w' => w'.cell? ⟨q, 0, none⟩ = some (.int .i64 b) ∧ w'.cell? ⟨q, 1, none⟩ = some (.slice B1 pr.f1.length d1) ∧ w'.cell? ⟨q, 2, none⟩ = some (.int .i64 pr.f2) ∧ w'.cell? ⟨q, 3, none⟩ = some (.int .i64 pr.f3.f0) ∧ w'.cell? ⟨q, 4, none⟩ = some (.int .i64 pr.f3.f1) ∧ w'.cell? ⟨q, 5, none⟩ = some (.string pr.f3.f2) ∧ w'.cell? ⟨q, 6, none⟩ = some (.slice B6 pr.f3.f3.length d6) ∧ w'.cell? ⟨g, o, none⟩ = some (.int .i64 b)) (go_keep)
          (first | (go_at_call 32; refine (HMI.out _ (HXA.out.chk.fr.trans ((Fr.refl (fun _ => False) W5).drew) (fun _ _ hf => hf))).mono ?_; rintro e W6 ⟨rfl, hF6⟩; have HF6 := Aside0.mk (((Fr.refl (fun _ => False) W5).drew).trans hF6 (fun _ _ hf => hf)); have HPB6 := Aside0.mk (HF6.out.blk HPB.out id); have t0 := HF6.out.cell z0 id; have t1 := HF6.out.cell z1 id; have t2 := HF6.out.cell z2 id; have t3 := HF6.out.cell z3 id; have t4 := HF6.out.cell z4 id; have t5 := HF6.out.cell z5 id; have t6 := HF6.out.cell z6 id; have th := HF6.out.cell hh id; clear hF6))
         have HX6 := Aside0.mk (HXA.out.go HF6.out); have HQ6 := Aside0.mk (Kd.Q_below HQA.out HF6.out.to_below); clear HXA HQA HPB HMI HF6 z0 z1 z2 z3 z4 z5 z6 hh hmi; go_wp2_with (fail)
         clear HPB6 t0 t1 t2 t3 t4 t5 t6 th; go_loopw [50, 6] (fun a q W => ∃ (t : Nat) (marks : List Bool) (tl : List Int), a = .int .i64 t ∧ t ≤ pr.f1.length ∧ marks.count false + (b :: tl).length ≤ gk ∧ Aside0 (CW w W G A0 A1 A2 (some ad) c0 c1 c2 c3 (.slice (some ⟨gb, 0, none⟩) G.rules.length cap) marks) ∧ Aside0 (kI.Q 3 W (w.heap.size + 1) (fun _ => True) q (b :: tl)) ∧ Aside0 (RcSt G may marks (b :: tl)) ∧ Aside0 (∀ j, j < i → Did G may marks b j) ∧ Aside0 (∀ x, x ∈ pr.f1.take t → Marked G marks x)) (fun a _ _ => pr.f1.length - (intOf a).toNat)
         case atStart => exact ⟨0, marks, tl, rfl, Nat.zero_le _, hk, HX6, HQ6, HS, HD, ⟨fun x hx => by simp at hx⟩⟩
         case round =>
          clear HX6 HQ6 HS HD hk; obtain ⟨t, marks, tl, rfl, ht, hk, HX, HQ, HS, HD, HT⟩ := hrel; by_cases htl : t < pr.f1.length
          · have HTL := Aside0.mk htl
            obtain ⟨ax, rfl, hx⟩ := Kd.at_int (HX.out.chk.fr.C (S := fun _ => False) (0 : Int) HC1.out (fun _ _ _ => id)) (t : Int) (by omega) (by omega); simp only [Int.toNat_natCast] at hx; obtain ⟨hx1, hx2⟩ := HRO.out t htl; have HMX := Aside0.mk (show rd pr.f1 (t : Int) ∈ pr.f1 from rd_mem htl); have HTK := Aside0.mk (show ∀ y, y ∈ pr.f1.take (t + 1) → y ∈ pr.f1.take t ∨ y = rd pr.f1 (t : Int) from fun y hy => by
             rw [List.take_add_one, List.getElem?_eq_getElem HTL.out] at hy; simp only [Option.toList_some, List.mem_append, List.mem_singleton] at hy; rcases hy with hy | hy
             · exact .inl hy
             · exact .inr (by rw [hy]; simp [rd, List.getD_eq_getElem?_getD, HTL.out]))
            generalize rd pr.f1 (t : Int) = x at hx hx1 hx2 HMX HTK; obtain ⟨e0, e1, e2, e3, e4⟩ := HX.out.chk.cells; go_wp2_with (fail)
            refine (isRule_calls _ G A0 A1 A2 (some ad) c0 c1 c2 c3 (HG.out.go HX.out.chk.fr) hK2 x hx1 (by omega)).mono ?_; rintro e W7 ⟨rfl, hF7⟩; have HX7 := Aside0.mk (HX.out.go hF7); have HQ7 := Aside0.mk (Kd.Q_below HQ.out hF7.to_below); clear HX HQ hF7 e0 e1 e2 e3 e4 hx; by_cases hxk : x < G.kinds.length
            · rw [if_pos hxk]
              have HT2 := Aside0.mk (show ∀ y, y ∈ pr.f1.take (t + 1) → Marked G marks y from fun y hy => by
               rcases HTK.out y hy with hy | rfl
               · exact HT.out y hy
               · exact fun h => absurd hxk (by omega))
              go_wp2_with (fail)
              exact ⟨⟨t + 1, marks, tl, by go_num, HTL.out, hk, HX7, HQ7, HS, HD, HT2⟩, by have := HTL.out; simp [intOf]; omega⟩
            · rw [if_neg hxk]
              have HRX := Aside0.mk (HRC2.out x HMX.out (by omega)); have ha0 : 0 ≤ x - G.kinds.length := by omega
              have ha1 : x - G.kinds.length < G.rules.length := by omega
              have HEQ := Aside0.mk (show (x - G.kinds.length : Int) = x - G.kinds.length from rfl); have HMK := Aside0.mk (show ∀ marks : List Bool, rdOf false marks (x - G.kinds.length) = true → Marked G marks x from fun _ h _ => h); clear HEQ; generalize x - (G.kinds.length : Int) = a at ha0 ha1 HRX HMK ⊢; obtain ⟨hm, hfz⟩ := HX7.out.at HS.out.len ha0 ha1; cases hma : rdOf false marks a with
              | true =>
               rw [hma] at hm; have HT2 := Aside0.mk (show ∀ y, y ∈ pr.f1.take (t + 1) → Marked G marks y from fun y hy => by
                rcases HTK.out y hy with hy | rfl
                · exact HT.out y hy
                · exact HMK.out _ hma)
               go_wp2_with (fail)
               exact ⟨⟨t + 1, marks, tl, by go_num, HTL.out, hk, HX7, HQ7, HS, HD, HT2⟩, by have := HTL.out; simp [intOf]; omega⟩
              | false =>
               rw [hma] at hm; obtain ⟨hS8, hc8⟩ := HS.out.push ha0 ha1 HRX.out hma; have HX8 := Aside0.mk (HX7.out.mark HS.out.len a).1; have HQ8 := Aside0.mk (queue_mark HX7.out HQ7.out a.toNat (.bool true)); have HS8 := Aside0.mk (show RcSt G may (marks.set a.toNat true) (b :: (tl ++ [a])) from hS8); have hk8 : (marks.set a.toNat true).count false + (b :: (tl ++ [a])).length ≤ gk := by
                have : (b :: (tl ++ [a])) = (b :: tl) ++ [a] := rfl; rw [this, hc8]; exact hk
               have HD8 := Aside0.mk (show ∀ j, j < i → Did G may (marks.set a.toNat true) b j from fun j hj => (HD.out j hj).set); have HT8 := Aside0.mk (show ∀ y, y ∈ pr.f1.take (t + 1) → Marked G (marks.set a.toNat true) y from fun y hy => by
                rcases HTK.out y hy with hy | rfl
                · exact fun h => marked_set (HT.out y hy h)
                · refine HMK.out _ ?_
                  have := rdOf_set (l := marks) (i := a.toNat) (by rw [HS.out.len]; omega) a.toNat; rwa [if_pos rfl, Int.toNat_of_nonneg ha0] at this)
               have HLEN := Aside0.mk (show (b :: tl).length ≤ 2048 by omega); clear hS8 hc8 HS HD HT HMK HTK hk HRX hma; go_upto_region 16 with fail
               clear hm hfz HX7 HQ7; generalize W7.setCell ⟨gb, a.toNat, none⟩ (.bool true) = W8 at HX8 HQ8 ⊢; go_wp2_with (first | ((with_reducible refine gate_builtin (b := .append) (xs := #[.tmp 69, .tmp 71]) rfl ?_); at_builtin; refine Kd.Q_append kI (w0 := W8) (w.heap.size + 1) rfl (.tmp 69) (.tmp 71) 27 3 (.int .i64 0) 8 rfl Try.underlying27 info3 rfl (by decide) (by omega) _ (b :: tl) a [.int .i64 a] (fun _ => True) (fun _ => False) rfl rfl ?aP (fun _ hk => hk.elim) ?aF HQ8.out ?aB ?aS ?aL ?_; (case aP => exact rfl); (case aF => exact (fun _ _ => trivial)); (case aB => exact Below.refl _ _); (case aS => exact (blk_lt HX8.out.chk.box)); (case aL => have := HLEN.out; omega); intro v9 W9 hq9 hb9 hg9 hat9; have HX9 := Aside0.mk (HX8.out.over HQ8.out hg9); have HQ9 := Aside0.mk (show kI.Q 3 W9 (w.heap.size + 1) (fun _ => True) v9 (b :: (tl ++ [a])) from hq9); clear hq9 hb9 hg9 hat9))
               exact ⟨⟨t + 1, _, _, by go_num, HTL.out, hk8, HX9, HQ9, HS8, HD8, HT8⟩, by have := HTL.out; simp [intOf]; omega⟩
          · obtain rfl : t = pr.f1.length := by omega
            have HD6 := Aside0.mk (show ∀ j, j < i + 1 → Did G may marks b j from fun j hj => by
             by_cases ej : j = i
             · rw [ej]; exact HDN2.out marks (fun x hx => HT.out x (by rw [List.take_length]; exact hx))
             · exact HD.out j (by omega))
            go_wp2_with (fail)
            exact ⟨⟨i + 1, marks, tl, by go_num, HLT.out, hk, HX, HQ, HS, HD6⟩, by have := HLT.out; simp [intOf]; omega⟩
      · have HDI := Aside0.mk (show Did G may marks b i from HDN.out marks (fun h => absurd h hl))
        go_wp2_with (fail)
        refine wp_region_last_drew (S := fun w' => w'.cell? ⟨q, 0, none⟩ = some (.int .i64 pr.f0) ∧ w'.cell? ⟨g, o, none⟩ = some (.int .i64 b)) (ds := []) (by kernel_rfl) ⟨by simp only [World.cell?_drew]; exact z0, by simp only [World.cell?_drew]; exact hh⟩ (fun hHeld => ?_); refine tk 0 ?_; refine tk 1 ?_; refine tk 2 ?_; refine tk 3 ?_; refine tk 4 ?_; refine tk (v := .bool true) 5 ?_; refine tk 6 ?_; refine un 7 ?_; refine un 8 ?_; refine on 9 (fun K hK => ?_); go_simp
        refine hK.out _ _ (by assumption) (fun hHeld => ?_); clear hK K; try simp only [Act.put, List.setIfInBounds_toArray, List.set_cons_zero, List.set_cons_succ]
        refine un 10 ?_; refine tk 11 ?_; refine dn ?_; have HX6 := Aside0.mk (HXA.out.go (Fr.refl (fun _ => False) W5).drew); have HQ6 := Aside0.mk (Kd.Q_drew HQA.out); have HD6 := Aside0.mk (show ∀ j, j < i + 1 → Did G may marks b j from fun j hj => by
         by_cases ej : j = i
         · rw [ej]; exact HDI.out
         · exact HD.out j (by omega))
        go_wp2_with (fail)
        exact ⟨⟨i + 1, marks, tl, by go_num, HLT.out, hk, HX6, HQ6, HS, HD6⟩, by have := HLT.out; simp [intOf]; omega⟩
    · obtain rfl : i = G.prods.length := by omega
      obtain ⟨A, c, rfl, _⟩ := Kd.Q_slice HQ.out; obtain ⟨A', n', c', hcut, hQ'⟩ := queue_cut HQ.out (by simp); have HQ' := Aside0.mk (show kI.Q 3 wr (w.heap.size + 1) (fun _ => True) (.slice A' n' c') tl from hQ'); have HS' := Aside0.mk (HS.out.pop HD.out); clear hQ'; simp only [List.length_cons] at hk hcut ⊢; go_wp2_with (fail)
      go_roundg (gk - 1)
      case measure => omega
      case rel => exact ⟨marks, tl, by omega, by omega, HX, HQ', HS'⟩
structure KSt (w W : World) (p mid : Nat) (G : Gr) (A0 A1 A2 A3 NA FA : Option Addr) (c0 c1 c2 c3 nc fc : Nat) (N : List Bool) (F : List (List Bool)) : Prop where
 chk : ChkW w W G A0 A1 A2 A3 c0 c1 c2 c3
 box : W.heap[p]? = some (.cells #[.slice A0 G.kinds.length c0, .slice A1 G.precs.length c1, .slice A2 G.rules.length c2, .slice A3 G.prods.length c3, .int .i64 G.start, .slice NA G.rules.length nc, .slice FA G.rules.length fc] 79 (0, 0))
 lo : w.heap.size < mid
 hi : mid ≤ p
 null : kB.R 4 W (w.heap.size + 1) (fun k => k < mid) (.slice NA G.rules.length nc) N
 first : Kd.S kR 36 W mid (fun k => k < p) (.slice FA G.rules.length fc) F
theorem KSt.go {w W W1 : World} {p mid : Nat} {G : Gr} {A0 A1 A2 A3 NA FA : Option Addr} {c0 c1 c2 c3 nc fc : Nat} {N : List Bool} {F : List (List Bool)} (h : KSt w W p mid G A0 A1 A2 A3 NA FA c0 c1 c2 c3 nc fc N F) (hF : Fr (fun _ => False) W W1) : KSt w W1 p mid G A0 A1 A2 A3 NA FA c0 c1 c2 c3 nc fc N F :=
 ⟨h.chk.go hF, hF.blk h.box id, h.lo, h.hi, hF.R h.null (fun _ _ => id), Kd.S_below h.first hF.to_below⟩
theorem KSt.at {w W : World} {p mid : Nat} {G : Gr} {A0 A1 A2 A3 NA FA : Option Addr} {c0 c1 c2 c3 nc fc : Nat} {N : List Bool} {F : List (List Bool)} (h : KSt w W p mid G A0 A1 A2 A3 NA FA c0 c1 c2 c3 nc fc N F) (hg : GAt w G A0 A1 A2 A3 c0 c1 c2 c3) (hn : N.length = G.rules.length) (hs : Sized G F) : KAt W p G A0 A1 A2 A3 NA FA c0 c1 c2 c3 nc fc N F :=
 ⟨by rw [hn, hs.fl]; exact h.box, hg.go h.chk.fr, (Kd.R_reads' h.null).2.2, (Kd.S_reads' h.first).2.2, hn, hs.fl, hs.fk⟩
theorem sets_borrow {W : World} {p mid gb fc : Nat} {G : Gr} {F : List (List Bool)} (h : Kd.S kR 36 W mid (fun k => k < p) (.slice (some ⟨gb, 0, none⟩) G.rules.length fc) F) (hs : Sized G F) (hK : 1 ≤ G.kinds.length) {a : Int} (ha : 0 ≤ a) (ha2 : a < G.rules.length) :
 ∃ g cr, W.cell? ⟨gb, a.toNat, none⟩ = some (.slice (some ⟨g, 0, none⟩) G.kinds.length cr) ∧ mid ≤ g ∧ g < p ∧ g ≠ gb ∧ kB.R 4 W mid (fun k => k = g) (.slice (some ⟨g, 0, none⟩) G.kinds.length cr) (rd_L7 F a) ∧
  ∀ (w1 : World) (x' : List Bool), Fr (fun k => k = g) W w1 → x'.length = G.kinds.length → kB.R 4 w1 mid (fun k => k = g) (.slice (some ⟨g, 0, none⟩) G.kinds.length cr) x' → Kd.S kR 36 w1 mid (fun k => k < p) (.slice (some ⟨gb, 0, none⟩) G.rules.length fc) (F.set a.toNat x') := by
 have hfk := hs.fk a.toNat (by omega); have ea : ((a.toNat : Nat) : Int) = a := by omega
 rw [ea] at hfk; obtain ⟨oki, cs, _, hM, hcc, hoki, hback⟩ := Kd.S_borrow h [] a ha ha2; obtain ⟨ve, rfl, hR⟩ := hM; have hR : kB.R 4 W mid oki ve (rd_L7 F a) := hR; obtain ⟨g, cap, rfl⟩ := marks_form hR (by omega); rw [hfk] at hR hcc hback; have hc0 := hcc 0 _ rfl; rw [Nat.add_zero, show kR.sz = 1 from rfl, Nat.mul_one, add_plain] at hc0; have hog := hR.1 g rfl; have hgo : g < p ∧ g ≠ gb := ⟨(hoki g hog).1, fun e => (hoki g hog).2 (by rw [e]; rfl)⟩; refine ⟨g, cap, hc0, Kd.R_base hR g rfl, hgo.1, hgo.2, ?_, fun w1 x' hF _ hx => ?_⟩
 · exact Kd.R_mono (Kd.R_tight rfl hR) (fun k hk => by injection hk)
 · exact hback (row := some g) ⟨hF.os, hF.tape, hF.output, hF.size, fun i hi hn => hF.block i hi (fun e => hn (by rw [e]))⟩ (fun k hk => by injection hk with hk; rw [← hk]; exact hog) ⟨_, rfl, Kd.R_mono hx (fun k hk => by rw [hk]; exact hog)⟩
theorem kjoin_calls {w W : World} {p mid gb fc : Nat} {G : Gr} {A0 A1 A2 A3 NA : Option Addr} {c0 c1 c2 c3 nc : Nat} {N : List Bool} {F : List (List Bool)} (h : KSt w W p mid G A0 A1 A2 A3 NA (some ⟨gb, 0, none⟩) c0 c1 c2 c3 nc fc N F) (hs : Sized G F) (hK : 1 ≤ G.kinds.length) {a : Int} (ha : 0 ≤ a) (ha2 : a < G.rules.length) {A : Option Addr} {c : Nat} {f : List Bool} {base : Nat} (hf : kB.R 4 W base (fun _ => True) (.slice A f.length c) f) (hb : p ≤ base) (hl : f.length = G.kinds.length) :
 ∃ Ar cr, W.cell? ⟨gb, a.toNat, none⟩ = some (.slice Ar G.kinds.length cr) ∧ ∀ W1, Fr (fun _ => False) W W1 →
  Calls Try.prog 67 #[.slice Ar G.kinds.length cr, .slice A G.kinds.length c] W1 fun e w' => e = .returned (.bool (someL (rd_L7 F a) f G.kinds.length)) ∧ KSt w w' p mid G A0 A1 A2 A3 NA (some ⟨gb, 0, none⟩) c0 c1 c2 c3 nc fc N (F.set a.toNat (joinL (rd_L7 F a) f G.kinds.length)) ∧ w'.cell? ⟨gb, a.toNat, none⟩ = some (.slice Ar G.kinds.length cr) ∧ Fr (fun k => mid ≤ k ∧ k < p ∧ k ≠ gb) W1 w' := by
 have hfk := hs.fk a.toNat (by omega); have ea : ((a.toNat : Nat) : Int) = a := by omega
 rw [ea] at hfk; obtain ⟨g, cr, hc, _⟩ := sets_borrow h.first hs hK ha ha2
 refine ⟨_, _, hc, fun W1 hF1 => ?_⟩; have h1 := h.go hF1; obtain ⟨g2, cr2, hc2, hm, hp, hne, hR, hback⟩ := sets_borrow h1.first hs hK ha ha2
 rw [hF1.cell hc id] at hc2; injection hc2 with hc2
 injection hc2 with e1 _ e2
 injection e1 with e1
 injection e1 with e1
 subst e1 e2; have hf1 := hF1.R hf (fun _ _ => id); rw [← hfk] at hR; have hj := join_calls W1 mid g cr (fun k => k = g) (rd_L7 F a) f A c hR (Kd.R_reads' hf1).2.2 (fun ad e hpos => by
  subst e; obtain ⟨g3, _, e3, hb3, _⟩ := Kd.R_form hf1 hpos; injection e3 with e3
  injection e3 with e3
  rw [e3]; show g3 ≠ g
  omega) (by omega)
 rw [hfk, hl] at hj; refine hj.mono ?_; rintro e w' ⟨rfl, hR2, hF2⟩; have hF3 : Fr (fun k => mid ≤ k ∧ k < p ∧ k ≠ gb) W1 w' := hF2.mono (fun k hk => by rw [hk]; exact ⟨hm, hp, hne⟩); refine ⟨rfl, ⟨⟨hF3.blk h1.chk.box (by have := h1.lo; omega), h1.chk.fr.trans hF3 (fun k hk e => by have := h1.lo; omega)⟩, hF3.blk h1.box (by omega), h1.lo, h1.hi, hF3.R h1.null (fun k hk e => by omega), ?_⟩, hF3.cell (hF1.cell hc id) (by simp), hF3⟩; exact hback w' _ hF2 (by rw [joinL_length]; exact hfk) hR2
theorem KSt.start {w W2 W3 : World} {G : Gr} {A0 A1 A2 A3 NA FA : Option Addr} {c0 c1 c2 c3 nc fc : Nat} {N : List Bool} {F : List (List Bool)} (h : ChkW w W3 G A0 A1 A2 A3 c0 c1 c2 c3) (hw : w.heap.size < W2.heap.size) (hN : kB.R 4 W2 (w.heap.size + 1) (fun _ => True) (.slice NA N.length nc) N) (hn : N.length = G.rules.length) (hF : Fr (fun _ => False) W2 W3) (hS : Kd.S kR 36 W3 (W2.heap.size + 1) (fun _ => True) (.slice FA F.length fc) F) (hs : Sized G F) (hR : 1 ≤ G.rules.length) :
 KSt w (W3.alloc (.cells #[.slice A0 G.kinds.length c0, .slice A1 G.precs.length c1, .slice A2 G.rules.length c2, .slice A3 G.prods.length c3, .int .i64 G.start, .slice NA N.length nc, .slice FA F.length fc] 79)) W3.heap.size (W2.heap.size + 1) G A0 A1 A2 A3 NA FA c0 c1 c2 c3 nc fc N F := by
 obtain ⟨gb, cap, e, h1, h2, _⟩ := Kd.S_form hS (by rw [hs.fl]; exact hR); rw [hs.fl] at hS ⊢; rw [hn] at hN ⊢; refine ⟨h.go ((Fr.refl _ W3).alloc _), blk_new W3 _, by omega, by omega, ?_, ?_⟩
 · exact (hF.alloc _).R (Kd.R_mono (Kd.R_bound hN) (fun k hk => by have := hk.2.2.1; omega)) (fun _ _ => id)
 · exact Kd.S_alloc (Kd.S_mono (Kd.S_bound hS) (fun k hk => hk.2.2.1)) _
theorem KSt.cells {w W : World} {p mid : Nat} {G : Gr} {A0 A1 A2 A3 NA FA : Option Addr} {c0 c1 c2 c3 nc fc : Nat} {N : List Bool} {F : List (List Bool)} (h : KSt w W p mid G A0 A1 A2 A3 NA FA c0 c1 c2 c3 nc fc N F) :
 W.cell? ⟨w.heap.size, 3, none⟩ = some (.slice A3 G.prods.length c3) ∧ W.cell? ⟨p, 6, none⟩ = some (.slice FA G.rules.length fc) :=
 ⟨h.chk.cells.2.2.2.1, (blk_cell h.box 6).trans rfl⟩
def KnowPost (w w' : World) (G : Gr) (A0 A1 A2 A3 : Option Addr) (c0 c1 c2 c3 : Nat) (e : Ending) : Prop :=
 ∃ p mid NA FA nc fc, e = .returned (.pointer (some ⟨p, 0, none⟩)) ∧ KSt w w' p mid G A0 A1 A2 A3 NA FA c0 c1 c2 c3 nc fc (closedL G false) (firstL G)
noncomputable def begL (G : Gr) (F : List (List Bool)) (i : Nat) : List Bool := (rowF G.kinds.length (closedL G false) F (List.replicate G.kinds.length false) (rd_T57 G.prods i).f1).1
theorem begL_length {G : Gr} {F : List (List Bool)} (hP : ProdsOk G) (hF : Sized G F) {i : Nat} (hi : i < G.prods.length) : (begL G F i).length = G.kinds.length :=
 (rowF_spec (N := closedL G false) hF _ (List.replicate G.kinds.length false) (hP i hi).2.2.2.syms (by simp)).1
theorem left_len {G : Gr} {F : List (List Bool)} (hP : ProdsOk G) (hF : Sized G F) {i : Nat} (hi : i < G.prods.length) : (rd_L7 F (rd_T57 G.prods i).f0).length = G.kinds.length := by
 have h := hP i hi; have := hF.fk (rd_T57 G.prods i).f0.toNat (by omega); rwa [Int.toNat_of_nonneg h.1] at this
theorem set_same {F : List (List Bool)} {a : Int} (h0 : 0 ≤ a) (h : a < F.length) : F.set a.toNat (rd_L7 F a) = F := by
 apply List.ext_getElem?
 intro j; rw [List.getElem?_set]; split
 · rename_i e
   subst e; rw [if_pos (by omega), rd_L7, List.getD_eq_getElem?_getD, List.getElem?_eq_getElem (by omega)]; rfl
 · rfl
theorem closed_now {G : Gr} {F : List (List Bool)} (hP : ProdsOk G) (hF : Sized G F) {i : Nat} (hi : i < G.prods.length) (h : someL (rd_L7 F (rd_T57 G.prods i).f0) (begL G F i) G.kinds.length = false) :
 F.set (rd_T57 G.prods i).f0.toNat (joinL (rd_L7 F (rd_T57 G.prods i).f0) (begL G F i) G.kinds.length) = F ∧ ClosedAt G F i := by
 have h1 := begL_length hP hF hi; have h2 := left_len hP hF hi; have h3 := hP i hi; rw [← h1] at h; constructor
 · have := (join_falses (rd_L7 F (rd_T57 G.prods i).f0) (begL G F i) (by omega) _ (Nat.le_refl _)).2 h
   rw [h1] at this; rw [this]; exact set_same h3.1 (by rw [hF.fl]; exact h3.2.1)
 · intro t ht
   refine join_none (by omega) h t ?_; rw [begL, (rowF_spec (N := closedL G false) hF _ (List.replicate G.kinds.length false) h3.2.2.2.syms (by simp)).2.2, ht, Bool.or_true]
theorem falses_now {G : Gr} {F : List (List Bool)} (hP : ProdsOk G) (hF : Sized G F) {i : Nat} (hi : i < G.prods.length) (h : someL (rd_L7 F (rd_T57 G.prods i).f0) (begL G F i) G.kinds.length = true) :
 falses (F.set (rd_T57 G.prods i).f0.toNat (joinL (rd_L7 F (rd_T57 G.prods i).f0) (begL G F i) G.kinds.length)) + 1 ≤ falses F := by
 have h1 := begL_length hP hF hi; have h2 := left_len hP hF hi; have h3 := hP i hi; have h4 := (join_falses (rd_L7 F (rd_T57 G.prods i).f0) (begL G F i) (by omega) _ (Nat.le_refl _)).1; rw [h1, h, if_pos rfl] at h4; exact falses_set F _ _ 1 (by rw [hF.fl]; omega) h4
set_option maxHeartbeats 4000000 in
set_option maxRecDepth 100000 in
theorem know_calls (w : World) (G : Gr) (A0 A1 A2 A3 : Option Addr) (c0 c1 c2 c3 : Nat) (h : GAt w G A0 A1 A2 A3 c0 c1 c2 c3) (hc : CheckOk G) :
 Calls Try.prog 27 #[.agg #[.slice A0 G.kinds.length c0, .slice A1 G.precs.length c1, .slice A2 G.rules.length c2, .slice A3 G.prods.length c3, .int .i64 G.start]] w fun e w' =>
  KnowPost w w' G A0 A1 A2 A3 c0 c1 c2 c3 e := by
 have hu := Try.underlying26; have hu2 := Try.underlying57; have hu3 := Try.underlying79; have hm3 := Kd.C_max h.prods; have hR1 := (base_true hc.base).2.1; have hR2 := (base_true hc.base).2.2.1; have hQ2 := (base_true hc.base).2.2.2.2.2; have hK1 := hc.kinds.two; have hK2 := hc.kinds.max; have HG := Aside0.mk h; have HC := Aside0.mk hc; have HW := Aside0.mk (show ChkW w (w.alloc (.cells #[.slice A0 G.kinds.length c0, .slice A1 G.precs.length c1, .slice A2 G.rules.length c2, .slice A3 G.prods.length c3, .int .i64 G.start] 26)) G A0 A1 A2 A3 c0 c1 c2 c3 from ⟨blk_new w _, (Fr.refl _ w).alloc _⟩); have hws : (w.alloc (.cells #[.slice A0 G.kinds.length c0, .slice A1 G.precs.length c1, .slice A2 G.rules.length c2, .slice A3 G.prods.length c3, .int .i64 G.start] 26)).heap.size = w.heap.size + 1 := by simp only [World.size_alloc]
 clear h hc; go_enter Try.func27, Try.ntmps27
 go_upto_region 1 with fail
 generalize w.alloc (.cells #[.slice A0 G.kinds.length c0, .slice A1 G.precs.length c1, .slice A2 G.rules.length c2, .slice A3 G.prods.length c3, .int .i64 G.start] 26) = W0 at HW hws ⊢; obtain ⟨e0, e1, e2, e3, e4⟩ := HW.out.cells; have HW1 := Aside0.mk (HW.out.go (Fr.refl _ _).drew); go_region_held3 (fun w' => w'.cell? ⟨w.heap.size, 0, none⟩ = some (.slice A0 G.kinds.length c0) ∧ w'.cell? ⟨w.heap.size, 1, none⟩ = some (.slice A1 G.precs.length c1) ∧ w'.cell? ⟨w.heap.size, 2, none⟩ = some (.slice A2 G.rules.length c2) ∧ w'.cell? ⟨w.heap.size, 3, none⟩ = some (.slice A3 G.prods.length c3) ∧ w'.cell? ⟨w.heap.size, 4, none⟩ = some (.int .i64 G.start)) (go_keep)
  (first | (go_at_call 31; refine (closed_calls _ G A0 A1 A2 A3 c0 c1 c2 c3 (HG.out.go HW1.out.fr) HC.out false).mono ?_; rintro e W2 ⟨v1, rfl, hR1, hF2⟩; obtain ⟨NA, nc, rfl⟩ := Kd.R_slice hR1; have HW2 := Aside0.mk (HW1.out.go hF2); have HN2 := Aside0.mk (Kd.R_lower hR1 (show w.heap.size + 1 ≤ _ by simp only [World.size_drew]; omega)); obtain ⟨f0, f1, f2, f3, f4⟩ := HW2.out.cells; clear hF2 hR1) | (go_at_call 66; refine (fresh_calls _ G A0 A1 A2 A3 c0 c1 c2 c3 (base_true HC.out.base).2.1 (base_true HC.out.base).2.2.1 (by have := HC.out.kinds.max; omega)).mono ?_; rintro e W3 ⟨v2, rfl, hS3, hF3⟩; obtain ⟨FA, fc, rfl⟩ := Kd.S_slice hS3; have HW3 := Aside0.mk (HW2.out.go hF3); have HS3 := Aside0.mk hS3; have HF3 := Aside0.mk hF3; obtain ⟨g0, g1, g2, g3, g4⟩ := HW3.out.cells; clear hF3 hS3))
 have hw2 : w.heap.size < W2.heap.size := blk_lt HW2.out.box; have HKS := Aside0.mk (KSt.start HW3.out hw2 HN2.out (closedL_length G false) HF3.out HS3.out (fresh_sized G) hR1); generalize W2.heap.size + 1 = mid at HKS; generalize W3.heap.size = p at HKS ⊢; generalize W3.alloc (.cells #[.slice A0 G.kinds.length c0, .slice A1 G.precs.length c1, .slice A2 G.rules.length c2, .slice A3 G.prods.length c3, .int .i64 G.start, .slice NA (closedL G false).length nc, .slice FA (freshL G.rules.length G.kinds.length).length fc] 79) = W4 at HKS ⊢; obtain ⟨gb, rfl⟩ : ∃ gb, FA = some ⟨gb, 0, none⟩ := by
  obtain ⟨gb, cap, e⟩ := sets_form HKS.out.first (by rw [(fresh_sized G).fl]; exact hR1)
  injection e with e1 _ _
  exact ⟨gb, e1⟩
 clear HW HW1 HW2 HW3 HN2 HS3 HF3 hws e0 e1 e2 e3 e4 f0 f1 f2 f3 f4 g0 g1 g2 g3 g4 hw2; have HZ := Aside0.mk (⟨fresh_sized G, fresh_sound G⟩ : Sized G (freshL G.rules.length G.kinds.length) ∧ Sound G (freshL G.rules.length G.kinds.length)); have hfz := falses_fresh G.rules.length G.kinds.length; go_wp2_with (fail)
 go_loopg [4] (G.rules.length * G.kinds.length + 1) (fun k a W => ∃ (sm : Bool) (F : List (List Bool)), a = .bool sm ∧ falses F + (if sm = true then 1 else 0) ≤ k ∧ Aside0 (KSt w W p mid G A0 A1 A2 A3 NA (some ⟨gb, 0, none⟩) c0 c1 c2 c3 nc fc (closedL G false) F) ∧ Aside0 (Sized G F ∧ Sound G F) ∧ Aside0 (sm = false → ∀ i, i < G.prods.length → ClosedAt G F i))
 case atStart => exact ⟨true, _, rfl, by rw [hfz]; simp, HKS, HZ, ⟨fun h => absurd h (by decide)⟩⟩
 case round =>
  clear HKS HZ hfz; obtain ⟨sm, F, rfl, hk, HKS, HZ, HCL⟩ := hrel; cases sm with
  | false =>
   have HE := Aside0.mk (first_eq HC.out.prodsOk HZ.out.1 HZ.out.2 (HCL.out rfl)); have HKE := Aside0.mk (show KSt w wr p mid G A0 A1 A2 A3 NA (some ⟨gb, 0, none⟩) c0 c1 c2 c3 nc fc (closedL G false) (firstL G) by rw [← HE.out]; exact HKS.out); clear HKS HE; go_wp2_with (fail)
   go_ret
   exact ⟨_, _, _, _, _, _, rfl, HKE.out⟩
  | true =>
   simp only [if_pos] at hk; obtain ⟨e3, _⟩ := HKS.out.cells; go_wp2_with (fail)
   go_loopw [20, 4] (fun a b W => ∃ (i : Nat) (sm : Bool) (F' : List (List Bool)), a = .int .i64 i ∧ b = .bool sm ∧ i ≤ G.prods.length ∧ falses F' + (if sm = true then 1 else 0) ≤ falses F ∧ Aside0 (KSt w W p mid G A0 A1 A2 A3 NA (some ⟨gb, 0, none⟩) c0 c1 c2 c3 nc fc (closedL G false) F') ∧ Aside0 (Sized G F' ∧ Sound G F') ∧ Aside0 (sm = false → ∀ j, j < i → ClosedAt G F' j)) (fun a _ _ => G.prods.length - (intOf a).toNat)
   case atStart => exact ⟨0, false, F, rfl, rfl, Nat.zero_le _, by simp, HKS, HZ, ⟨fun _ j hj => absurd hj (by omega)⟩⟩
   case round =>
    clear HKS HZ HCL e3; obtain ⟨i, sm, F', rfl, rfl, hi, hf, HKS, HZ, HCL⟩ := hrel; by_cases hlt : i < G.prods.length
    · have HLT := Aside0.mk hlt
      obtain ⟨ad, B1, d1, B6, d6, rfl, x0, x1, x2, x3, x4, x5, x6, hl1, hC1, hl6, hC6⟩ := at_T57 HG.out.prods (i : Int) (by omega) (by omega); simp only [Int.toNat_natCast] at x0 x1 x2 x3 x4 x5 x6; have y0 := HKS.out.chk.fr.cell x0 id; have y1 := HKS.out.chk.fr.cell x1 id; have y2 := HKS.out.chk.fr.cell x2 id; have y3 := HKS.out.chk.fr.cell x3 id; have y4 := HKS.out.chk.fr.cell x4 id; have y5 := HKS.out.chk.fr.cell x5 id; have y6 := HKS.out.chk.fr.cell x6 id; have HC1 := Aside0.mk hC1; have HPI := Aside0.mk (HC.out.prodsOk i hlt); have HI := Aside0.mk (show rd_T57 G.prods i = rd_T57 G.prods (i : Int) from rfl); clear x0 x1 x2 x3 x4 x5 x6 hC1 hC6 hl6; go_upto_region 8 with fail
      have hpq : p < wr.heap.size := blk_lt HKS.out.box; have HKA := Aside0.mk (HKS.out.go ((Fr.refl (fun _ => False) wr).alloc (.cells #[.int .i64 (rd_T57 G.prods (i : Int)).f0, .slice B1 (rd_T57 G.prods (i : Int)).f1.length d1, .int .i64 (rd_T57 G.prods (i : Int)).f2, .int .i64 (rd_T57 G.prods (i : Int)).f3.f0, .int .i64 (rd_T57 G.prods (i : Int)).f3.f1, .string (rd_T57 G.prods (i : Int)).f3.f2, .slice B6 (rd_T57 G.prods (i : Int)).f3.f3.length d6] 57))); have HPB := Aside0.mk (blk_new wr (.cells #[.int .i64 (rd_T57 G.prods (i : Int)).f0, .slice B1 (rd_T57 G.prods (i : Int)).f1.length d1, .int .i64 (rd_T57 G.prods (i : Int)).f2, .int .i64 (rd_T57 G.prods (i : Int)).f3.f0, .int .i64 (rd_T57 G.prods (i : Int)).f3.f1, .string (rd_T57 G.prods (i : Int)).f3.f2, .slice B6 (rd_T57 G.prods (i : Int)).f3.f3.length d6] 57)); generalize wr.alloc (.cells #[.int .i64 (rd_T57 G.prods (i : Int)).f0, .slice B1 (rd_T57 G.prods (i : Int)).f1.length d1, .int .i64 (rd_T57 G.prods (i : Int)).f2, .int .i64 (rd_T57 G.prods (i : Int)).f3.f0, .int .i64 (rd_T57 G.prods (i : Int)).f3.f1, .string (rd_T57 G.prods (i : Int)).f3.f2, .slice B6 (rd_T57 G.prods (i : Int)).f3.f3.length d6] 57) = W5 at HKA HPB ⊢; generalize wr.heap.size = q at hpq HPB ⊢; clear y0 y1 y2 y3 y4 y5 y6 HKS; have z1 := (blk_cell HPB.out 1).trans (show _ = some (Value.slice B1 (rd_T57 G.prods (i : Int)).f1.length d1) from rfl); go_wp2_with (fail)
      refine (row_calls W5 p G A0 A1 A2 (some ad) NA (some ⟨gb, 0, none⟩) B1 c0 c1 c2 c3 nc fc d1 (closedL G false) F' (rd_T57 G.prods (i : Int)).f1 (by
       have := HKA.out.at HG.out (closedL_length G false) HZ.out.1; exact this) (by omega) hK2 hR2 (Kd.C_below HC1.out HKA.out.chk.fr.to_below) HPI.out.2.2.2).mono ?_
      rintro e W6 ⟨v6, rfl, hR6, hF6⟩; have hbl := begL_length HC.out.prodsOk HZ.out.1 HLT.out; have hR6 : kB.R 4 W6 W5.heap.size (fun _ => True) v6 (begL G F' i) := hR6; obtain ⟨A6, k6, rfl⟩ := Kd.R_slice hR6; have HK6 := Aside0.mk (HKA.out.go hF6); have hp5 : p ≤ W5.heap.size := Nat.le_of_lt (blk_lt HKA.out.box); have hq6 : q < W6.heap.size := Nat.lt_of_lt_of_le (blk_lt HPB.out) hF6.size; have HPB6 := Aside0.mk (hF6.blk HPB.out id); have h00 := HPI.out.1; have h01 := HPI.out.2.1; have HNOW := Aside0.mk (fun h => closed_now HC.out.prodsOk HZ.out.1 HLT.out (F := F') h); have HLESS := Aside0.mk (fun h => falses_now HC.out.prodsOk HZ.out.1 HLT.out (F := F') h); have HSZ := Aside0.mk (show ∀ r : List Bool, r.length = G.kinds.length → Sized G (F'.set (rd_T57 G.prods (i : Int)).f0.toNat r) from fun r hr => HZ.out.1.set (by omega) hr); have HSO := Aside0.mk (HZ.out.2.next HZ.out.1 HC.out.prodsOk HLT.out); have HLL := Aside0.mk (left_len HC.out.prodsOk HZ.out.1 HLT.out); rw [show rd_T57 G.prods i = rd_T57 G.prods (i : Int) from rfl] at HNOW HLESS HSO HLL; obtain ⟨Ar, cr, hcr, hcalls⟩ := kjoin_calls HK6.out HZ.out.1 (by omega) h00 h01 hR6 hp5 hbl; have HCALL := Aside0.mk hcalls; rw [hbl]; clear hR6 hF6 HKA HPB z1 hcalls hbl; have HSO : Aside0 (Sound G (F'.set (rd_T57 G.prods (i : Int)).f0.toNat (joinL (rd_L7 F' (rd_T57 G.prods (i : Int)).f0) (begL G F' i) G.kinds.length))) := HSO; clear hR6; generalize (rowF G.kinds.length (closedL G false) F' (List.replicate G.kinds.length false) (rd_T57 G.prods (i : Int)).f1).2 = em; generalize (rd_T57 G.prods (i : Int)).f0 = lf at h00 h01 hcr HPB6 HCALL HNOW HLESS HSZ HSO HLL; cases hsm : someL (rd_L7 F' lf) (begL G F' i) G.kinds.length with
       | true =>
        have z0 := (blk_cell HPB6.out 0).trans (show _ = some (Value.int .i64 lf) from rfl); have e6 := HK6.out.cells.2; go_wp2_with (fail)
        refine wp_region_last_drew (ds := []) (S := fun w' => w'.cell? ⟨p, 6, none⟩ = some (.slice (some ⟨gb, 0, none⟩) G.rules.length fc) ∧ w'.cell? ⟨q, 0, none⟩ = some (.int .i64 lf) ∧ w'.cell? ⟨gb, lf.toNat, none⟩ = some (.slice Ar G.kinds.length cr)) (by kernel_rfl) ⟨by simp only [World.cell?_drew]; exact e6, by simp only [World.cell?_drew]; exact z0, by simp only [World.cell?_drew]; exact hcr⟩ (fun hHeld => ?_); refine tk 0 ?_; refine tk 1 ?_; refine tk 2 ?_; refine tk 3 ?_; refine tk 4 ?_; refine tk 5 ?_; refine tk 6 ?_; refine tk 7 ?_; refine tk 8 ?_; refine on 9 (fun K hK => ?_); go_simp
        refine (HCALL.out _ (Fr.refl (fun _ => False) W6).drew).mono ?_; rintro e W7 ⟨he, hK7, hc7, hF7⟩; rw [hsm] at he; subst he; have HK7 := Aside0.mk hK7; have e7 := HK7.out.cells.2; have z7 := (blk_cell (hF7.blk (((Fr.refl (fun _ => False) W6).drew).blk HPB6.out id) (by omega)) 0).trans (show _ = some (Value.int .i64 lf) from rfl); clear hK7 hF7; dsimp only
        refine hK.out _ _ ⟨e7, z7, hc7⟩ (fun hHeld => ?_); clear hK K; try simp only [Act.put, List.setIfInBounds_toArray, List.set_cons_zero, List.set_cons_succ]
        refine tk 10 ?_; refine un 11 ?_; refine tk 12 ?_; refine tk 13 ?_; refine dn ?_; have HS7 := Aside0.mk (show Sized G (F'.set lf.toNat (joinL (rd_L7 F' lf) (begL G F' i) G.kinds.length)) ∧ Sound G (F'.set lf.toNat (joinL (rd_L7 F' lf) (begL G F' i) G.kinds.length)) from ⟨HSZ.out _ (by rw [joinL_length]; exact HLL.out), HSO.out⟩); have hless := HLESS.out hsm; have hf7 : falses (F'.set lf.toNat (joinL (rd_L7 F' lf) (begL G F' i) G.kinds.length)) + (if true = true then 1 else 0) ≤ falses F := by
         rw [if_pos rfl]; split at hf <;> omega
        go_wp2_with (fail)
        exact ⟨⟨i + 1, true, _, by go_num, rfl, HLT.out, hf7, HK7, HS7, ⟨fun e => absurd e (by decide)⟩⟩, by have := HLT.out; simp [intOf]; omega⟩
       | false =>
        have z0 := (blk_cell HPB6.out 0).trans (show _ = some (Value.int .i64 lf) from rfl); have e6 := HK6.out.cells.2; go_wp2_with (fail)
        go_region_held3 (fun w' => w'.cell? ⟨p, 6, none⟩ = some (.slice (some ⟨gb, 0, none⟩) G.rules.length fc) ∧ w'.cell? ⟨q, 0, none⟩ = some (.int .i64 lf) ∧ w'.cell? ⟨gb, lf.toNat, none⟩ = some (.slice Ar G.kinds.length cr)) (go_keep)
         (first | (go_at_call 67; refine (HCALL.out _ (Fr.refl (fun _ => False) W6).drew).mono ?_; rintro e W7 ⟨he, hK7, hc7, hF7⟩; rw [hsm] at he; subst he; have HK7 := Aside0.mk hK7; have e7 := HK7.out.cells.2; have z7 := (blk_cell (hF7.blk (((Fr.refl (fun _ => False) W6).drew).blk HPB6.out id) (by omega)) 0).trans (show _ = some (Value.int .i64 lf) from rfl); clear hK7 hF7))
        obtain ⟨hn1, hn2⟩ := HNOW.out hsm; rw [hn1] at HK7; have HCL2 := Aside0.mk (show sm = false → ∀ j, j < i + 1 → ClosedAt G F' j from fun e j hj => by
         by_cases ej : j = i
         · rw [ej]; exact hn2
         · exact HCL.out e j (by omega))
        clear hn1 hn2; go_wp2_with (fail)
        exact ⟨⟨i + 1, sm, _, by go_num, rfl, HLT.out, hf, HK7, HZ, HCL2⟩, by have := HLT.out; simp [intOf]; omega⟩
    · obtain rfl : i = G.prods.length := by omega
      go_wp2_with (fail)
      go_roundg (falses F)
      case measure => omega
      case rel => exact ⟨sm, F', rfl, hf, HKS, HZ, HCL⟩
theorem rows_apart {W : World} {base gb n cap a b : Nat} {ok : Nat → Prop} {xs : List (List Bool)} (h : Kd.S kR 36 W base ok (.slice (some ⟨gb, 0, none⟩) n cap) xs) (ha : a < n) (hb : b < n) (hab : a ≠ b) {va vb : Value} (hca : W.cell? ⟨gb, a, none⟩ = some va) (hcb : W.cell? ⟨gb, b, none⟩ = some vb) :
 ∀ k, va.ownBlock = some k → vb.ownBlock ≠ some k := by
 have hn := (Kd.S_reads' h).1; obtain ⟨oki, c, _, hM, hcc, _, hok, hH⟩ := Kd.S_elem h [] (a : Int) (by omega) (by omega); obtain ⟨ve, rfl, hR⟩ := hM; have h2 := hcc 0 _ rfl; simp only [show kR.sz = 1 from rfl, Nat.mul_one, Nat.add_zero, Int.toNat_natCast] at h2; rw [hca] at h2; injection h2 with h2
 subst h2; obtain ⟨_, f, hRR⟩ := hH; obtain ⟨c', _, hM', hcc', _⟩ := Kd.R_elem hRR ([], b) (b : Int) (by omega) (by omega); have e : (xs.zipIdx.getD (b : Int).toNat ([], b)) = (xs[b]'(by omega), b) := by
  rw [Int.toNat_natCast, List.getD_eq_getElem?_getD, List.getElem?_zipIdx, List.getElem?_eq_getElem (by omega)]; simp
 rw [e] at hM'; obtain ⟨vb', rfl, hRb⟩ := hM'.2 (by simp; omega); have h3 : W.cell? ⟨gb, b, none⟩ = some vb' := by
  have h4 := hcc' 0 _ rfl; rwa [show (b : Int).toNat * (Kd.gap f kR (a : Int).toNat [va]).sz + 0 = b from Nat.mul_one b] at h4
 rw [hcb] at h3; injection h3 with h3
 subst h3; exact fun k hk e => (hRb.1 k e).1.1.2 (hR.1 k hk)
theorem rows_ok {W : World} {base n gb cap i : Nat} {ok : Nat → Prop} {xs : List (List Bool)} (h : Kd.S kR 36 W base ok (.slice (some ⟨gb, 0, none⟩) n cap) xs) (hi : i < n) {v : Value} (hv : W.cell? ⟨gb, i, none⟩ = some v) : ∀ k, v.ownBlock = some k → ok k := fun k hk => by
 obtain ⟨A, c, oki, hc, _, hR, hok⟩ := rows_at h hi; rw [hc] at hv; injection hv with hv
 subst hv; exact (hok k (hR.1 k hk)).1
theorem ojoin_calls {W : World} {mid P gb fc : Nat} {G : Gr} {F : List (List Bool)} (h : Kd.S kR 36 W mid (fun k => k < P) (.slice (some ⟨gb, 0, none⟩) G.rules.length fc) F) (hs : Sized G F) (hK : 1 ≤ G.kinds.length) {a : Int} (ha : 0 ≤ a) (ha2 : a < G.rules.length) {A : Option Addr} {c : Nat} {f : List Bool} (hf : kB.C W A f.length f) (hl : f.length = G.kinds.length)
 (hne : ∀ (v : Value) (ad : Addr), W.cell? ⟨gb, a.toNat, none⟩ = some v → A = some ad → v.ownBlock ≠ some ad.block) :
 ∃ Ar cr, W.cell? ⟨gb, a.toNat, none⟩ = some (.slice Ar G.kinds.length cr) ∧ ∀ W1, Fr (fun _ => False) W W1 →
  Calls Try.prog 67 #[.slice Ar G.kinds.length cr, .slice A G.kinds.length c] W1 fun e w' => e = .returned (.bool (someL (rd_L7 F a) f G.kinds.length)) ∧ Kd.S kR 36 w' mid (fun k => k < P) (.slice (some ⟨gb, 0, none⟩) G.rules.length fc) (F.set a.toNat (joinL (rd_L7 F a) f G.kinds.length)) ∧ Fr (fun k => mid ≤ k ∧ k < P ∧ k ≠ gb) W1 w' := by
 have hfk := hs.fk a.toNat (by omega); have ea : ((a.toNat : Nat) : Int) = a := by omega
 rw [ea] at hfk; obtain ⟨g, cr, hc, _⟩ := sets_borrow h hs hK ha ha2; refine ⟨_, _, hc, fun W1 hF1 => ?_⟩; obtain ⟨g2, cr2, hc2, hm, hp, hneg, hR, hback⟩ := sets_borrow (Kd.S_below h hF1.to_below) hs hK ha ha2; rw [hF1.cell hc id] at hc2; injection hc2 with hc2
 injection hc2 with e1 _ e2
 injection e1 with e1
 injection e1 with e1
 subst e1 e2; have hf1 := Kd.C_below hf hF1.to_below; rw [← hfk] at hR; have hj := join_calls W1 mid g cr (fun k => k = g) (rd_L7 F a) f A c hR hf1 (fun ad e _ eg => hne _ ad hc e (by rw [eg]; rfl)) (by omega); rw [hfk, hl] at hj; refine hj.mono ?_; rintro e w' ⟨rfl, hR2, hF2⟩; exact ⟨rfl, hback w' _ hF2 (by rw [joinL_length]; exact hfk) hR2, hF2.mono (fun k hk => by rw [hk]; exact ⟨hm, hp, hneg⟩)⟩
set_option maxHeartbeats 2000000 in
set_option maxRecDepth 100000 in
theorem join_self (w : World) (l : List Bool) (A : Option Addr) (c : Nat) (hf : kB.C w A l.length l) :
 Calls Try.prog 67 #[.slice A l.length c, .slice A l.length c] w fun e w' => e = .returned (.bool false) ∧ Fr (fun _ => False) w w' := by
 have hm := Kd.C_max hf; have HF := Aside0.mk hf; clear hf; go_enter Try.func67, Try.ntmps67
 go_wp2_with (fail)
 go_loop [10, 5] (fun a b => ∃ (i : Nat), a = .int .i64 i ∧ b = .bool false ∧ i ≤ l.length) (fun a _ => l.length - (intOf a).toNat)
 case atStart => exact ⟨0, rfl, rfl, Nat.zero_le _⟩
 case round =>
  obtain ⟨i, rfl, rfl, hi⟩ := hrel; by_cases hlt : i < l.length
  · obtain ⟨ad, rfl, hx⟩ := Kd.at_bool HF.out (i : Int) (by omega) (by omega)
    simp only [Int.toNat_natCast] at hx; have HLT := Aside0.mk hlt; cases hb : rdOf false l (i : Int) with
    | false =>
     rw [hb] at hx; go_wp2_with (fail)
     exact ⟨⟨i + 1, by go_num, rfl, HLT.out⟩, by have := HLT.out; simp [intOf]; omega⟩
    | true =>
     rw [hb] at hx; go_wp2_with (fail)
     exact ⟨⟨i + 1, by go_num, rfl, HLT.out⟩, by have := HLT.out; simp [intOf]; omega⟩
  · obtain rfl : i = l.length := by omega
    go_wp2_with (fail)
    go_ret
    exact ⟨rfl, Fr.refl _ _⟩
theorem falses_join {G : Gr} {F : List (List Bool)} (hF : Sized G F) {a : Int} (h0 : 0 ≤ a) (h1 : a < G.rules.length) {f : List Bool} (hf : f.length = G.kinds.length) :
 falses (F.set a.toNat (joinL (rd_L7 F a) f G.kinds.length)) + (if someL (rd_L7 F a) f G.kinds.length = true then 1 else 0) ≤ falses F ∧ Sized G (F.set a.toNat (joinL (rd_L7 F a) f G.kinds.length)) := by
 have hfk := hF.fk a.toNat (by omega); rw [Int.toNat_of_nonneg h0] at hfk; have h4 := (join_falses (rd_L7 F a) f (by omega) _ (Nat.le_refl _)).1; rw [hf] at h4; exact ⟨falses_set F _ _ _ (by rw [hF.fl]; omega) h4, hF.set (by omega) (by rw [joinL_length]; exact hfk)⟩
theorem ojoin2_calls {W : World} {mid P gb fc : Nat} {G : Gr} {F : List (List Bool)} (h : Kd.S kR 36 W mid (fun k => k < P) (.slice (some ⟨gb, 0, none⟩) G.rules.length fc) F) (hs : Sized G F) (hK : 1 ≤ G.kinds.length) {a l : Int} (ha : 0 ≤ a) (ha2 : a < G.rules.length) (hl0 : 0 ≤ l) (hl1 : l < G.rules.length) :
 ∃ Aa ca Al cl b F2, W.cell? ⟨gb, a.toNat, none⟩ = some (.slice Aa G.kinds.length ca) ∧ W.cell? ⟨gb, l.toNat, none⟩ = some (.slice Al G.kinds.length cl) ∧ Sized G F2 ∧ falses F2 + (if b = true then 1 else 0) ≤ falses F ∧ ∀ W1, Fr (fun _ => False) W W1 →
  Calls Try.prog 67 #[.slice Aa G.kinds.length ca, .slice Al G.kinds.length cl] W1 fun e w' => e = .returned (.bool b) ∧ Kd.S kR 36 w' mid (fun k => k < P) (.slice (some ⟨gb, 0, none⟩) G.rules.length fc) F2 ∧ Fr (fun k => mid ≤ k ∧ k < P ∧ k ≠ gb) W1 w' := by
 have hlk := hs.fk l.toNat (by omega); have el : ((l.toNat : Nat) : Int) = l := by omega
 rw [el] at hlk; have hC := (Kd.S_reads' h).2.2; obtain ⟨adl, Al, cl, e1, hcl, _, hCl⟩ := at_L7 hC l hl0 (by rw [hs.fl]; exact hl1); injection e1 with e1
 subst e1; rw [add_plain, hlk] at hcl; by_cases hal : a = l
 · subst hal
   refine ⟨Al, cl, Al, cl, false, F, hcl, hcl, hs, by simp, fun W1 hF1 => ?_⟩; have := join_self W1 (rd_L7 F a) Al cl (Kd.C_below hCl hF1.to_below); rw [hlk] at this; refine this.mono ?_; rintro e w' ⟨rfl, hF2⟩; exact ⟨rfl, Kd.S_below h (hF1.trans hF2 (fun _ _ h => h)).to_below, hF2.mono (fun _ hk => hk.elim)⟩
 · obtain ⟨Aa, ca, hca, hcalls⟩ := ojoin_calls h hs hK ha ha2 (A := Al) (c := cl) hCl hlk (fun v ad hv hA => by
    intro e; have h1 := rows_apart h (a := a.toNat) (b := l.toNat) (by omega) (by omega) (by omega) hv hcl ad.block e; rw [hA] at h1; exact h1 rfl)
   obtain ⟨h1, h2⟩ := falses_join hs ha ha2 (f := rd_L7 F l) hlk; exact ⟨Aa, ca, Al, cl, _, _, hca, hcl, h2, h1, hcalls⟩
end Go.Proofs.Ytdngobjcdajogaa.Gram
