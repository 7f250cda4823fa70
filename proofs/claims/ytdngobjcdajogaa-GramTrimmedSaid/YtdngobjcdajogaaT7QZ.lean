/-
Which rules the start leads to: gram.reached, walked, as gram.Trim calls it.
-/
import Derived.Test.YtdngobjcdajogaaT7QI
import Derived.Test.YtdngobjcdajogaaT7QY
import Derived.Test.YtdngobjcdajogaaT7QL
namespace Go.Proofs.Ytdngobjcdajogaa.Gram
open Go.RowKit Go.Proofs.YtdngobjcdajogaaW.PrintWords Go.Proofs.YtdngobjcdajogaaW.PrintLast Go.Proofs.YtdngobjcdajogaaW.PrintMore Go.Proofs.Ytdngobjcdajogaa.Fr Go.Proofs.Ytdngobjcdajogaa.PGramFirsts Go.Proofs.Ytdngobjcdajogaa.TextSet
set_option maxHeartbeats 4000000 in
set_option maxRecDepth 100000 in
theorem reached_trim (w : World) (p1 p2 : Nat) (G : Gr) (A0 A1 A2 A3 : Option Addr) (c0 c1 c2 c3 : Nat) (h : GAt w G A0 A1 A2 A3 c0 c1 c2 c3) (hc : CheckOk G) (may : Nat → Bool)
    (hmay : ∀ (i : Nat) (W : World) (B1 B6 : Option Addr) (d1 d6 : Nat), i < G.prods.length → Fr (fun _ => False) w W → k55.C w B6 (rd_T57 G.prods (i : Int)).f3.f3.length (rd_T57 G.prods (i : Int)).f3.f3 → kI.C w B1 (rd_T57 G.prods (i : Int)).f1.length (rd_T57 G.prods (i : Int)).f1 → (rd_T57 G.prods (i : Int)).f1.length ≤ d1 →
      Calls Try.prog 32 #[.agg #[.int .i64 (rd_T57 G.prods (i : Int)).f0, .slice B1 (rd_T57 G.prods (i : Int)).f1.length d1, .int .i64 (rd_T57 G.prods (i : Int)).f2, .int .i64 (rd_T57 G.prods (i : Int)).f3.f0, .int .i64 (rd_T57 G.prods (i : Int)).f3.f1, .string (rd_T57 G.prods (i : Int)).f3.f2, .slice B6 (rd_T57 G.prods (i : Int)).f3.f3.length d6], .pointer (some ⟨p1, 0, none⟩), .pointer (some ⟨p2, 0, none⟩)] W fun e w' => e = .returned (.bool (may i)) ∧ Fr (fun _ => False) W w') :
    Calls Try.prog 34 #[.agg #[.slice A0 G.kinds.length c0, .slice A1 G.precs.length c1, .slice A2 G.rules.length c2, .slice A3 G.prods.length c3, .int .i64 G.start], .func (.func 32) #[] #[.pointer (some ⟨p1, 0, none⟩), .pointer (some ⟨p2, 0, none⟩)]] w fun e w' =>
      ∃ v, e = .returned v ∧ kB.R 4 w' (w.heap.size + 1) (fun _ => True) v (reachL G may) ∧ Fr (fun _ => False) w w' := by
  have hu := Try.underlying26
  have hu2 := Try.underlying57
  have hm3 := Kd.C_max h.prods
  have hR1 := (base_true hc.base).2.1
  have hR2 := (base_true hc.base).2.2.1
  have hs0 := (base_true hc.base).2.2.2.1
  have hs1 := (base_true hc.base).2.2.2.2.1
  have hQ2 := (base_true hc.base).2.2.2.2.2
  have hK2 := hc.kinds.max
  have HG := Aside0.mk h
  have HC := Aside0.mk hc
  have HM := Aside0.mk hmay
  have HB0 := Aside0.mk (RcSt.begin may hs0 hs1)
  have HW := Aside0.mk (show ChkW w (w.alloc (.cells #[.slice A0 G.kinds.length c0, .slice A1 G.precs.length c1, .slice A2 G.rules.length c2, .slice A3 G.prods.length c3, .int .i64 G.start] 26)) G A0 A1 A2 A3 c0 c1 c2 c3 from ⟨blk_new w _, (Fr.refl _ w).alloc _⟩)
  have hws : (w.alloc (.cells #[.slice A0 G.kinds.length c0, .slice A1 G.precs.length c1, .slice A2 G.rules.length c2, .slice A3 G.prods.length c3, .int .i64 G.start] 26)).heap.size = w.heap.size + 1 := by simp only [World.size_alloc]
  clear h hc hmay
  go_enter Try.func34, Try.ntmps34
  go_upto_region 1 with fail
  generalize w.alloc (.cells #[.slice A0 G.kinds.length c0, .slice A1 G.precs.length c1, .slice A2 G.rules.length c2, .slice A3 G.prods.length c3, .int .i64 G.start] 26) = W0 at HW hws ⊢
  obtain ⟨e0, e1, e2, e3, e4⟩ := HW.out.cells
  go_upto_region 2 with (at_make; refine Kd.R_make kB (w0 := W0) W0.heap.size 4 rfl (N := 15) rfl 36 _ _ rfl (G.rules.length : Int) rfl rfl Try.underlying36 (.bool false) 1 info4 rfl (by decide) (by omega) false (ok := fun _ => True) (okp := fun _ => True) rfl (fun _ hk => hk) trivial (by omega) (by omega) (Below.refl _ _) (Nat.le_refl _) ?_; intro v1 W1 h1 hB1 hg1 hb1; have HX := Aside0.mk (show CW w W1 G A0 A1 A2 A3 c0 c1 c2 c3 v1 (List.replicate G.rules.length false) from ⟨HW.out.go (Fr.of_below hB1), by simpa [hws] using h1⟩); clear h1 hB1 hg1)
  obtain ⟨gb, cap, rfl⟩ := marks_form HX.out.row (by simp; exact hR1)
  simp only [List.length_replicate] at HX hb1 ⊢
  clear HW e0 e1 e2 e3 e4
  obtain ⟨e0, e1, e2, e3, e4⟩ := HX.out.chk.cells
  obtain ⟨hx0, hfz⟩ := HX.out.at (by simp) hs0 hs1
  have HX1 := Aside0.mk (HX.out.mark (by simp) G.start).1
  obtain ⟨f0, f1, f2, f3, f4⟩ := HX1.out.chk.cells
  go_upto_region 3 with fail
  clear e0 e1 e2 e3 e4 hx0 hfz HX
  have hw1 : w.heap.size + 1 ≤ (W1.setCell ⟨gb, G.start.toNat, none⟩ (.bool true)).heap.size := blk_lt HX1.out.chk.box
  generalize W1.setCell ⟨gb, G.start.toNat, none⟩ (.bool true) = W2 at HX1 hw1 f0 f1 f2 f3 f4 ⊢
  have HQ1 := Aside0.mk (queue_one G.start hw1)
  have HX2 := Aside0.mk (HX1.out.go ((Fr.refl (fun _ => False) W2).alloc (.cells #[.int .i64 G.start] 3)))
  have HS2 := Aside0.mk HB0.out.1
  have hcnt := HB0.out.2
  clear HX1
  go_wp2_with (fail)
  go_loopg [6] G.rules.length (fun k a W => ∃ (marks : List Bool) (l : List Int), marks.count false + l.length ≤ k ∧ k ≤ G.rules.length ∧ Aside0 (CW w W G A0 A1 A2 A3 c0 c1 c2 c3 (.slice (some ⟨gb, 0, none⟩) G.rules.length cap) marks) ∧ Aside0 (kI.Q 3 W (w.heap.size + 1) (fun _ => True) a l) ∧ Aside0 (RcSt G may marks l))
  case atStart => exact ⟨_, _, hcnt, Nat.le_refl _, HX2, HQ1, HS2⟩
  case round =>
    clear HX2 HQ1 HS2 HB0 hcnt f0 f1 f2 f3 f4
    obtain ⟨marks, l, hk, hkR, HX, HQ, HS⟩ := hrel
    cases l with
    | nil =>
      have HE := Aside0.mk (HS.out.done hs0)
      have HRW := Aside0.mk (show kB.R 4 wr (w.heap.size + 1) (fun _ => True) (.slice (some ⟨gb, 0, none⟩) G.rules.length cap) (reachL G may) by have := HX.out.row; rwa [HE.out] at this)
      obtain ⟨A, c, rfl, _⟩ := Kd.Q_slice HQ.out
      simp only [List.length_nil]
      go_wp2_with (fail)
      go_ret
      exact ⟨_, rfl, HRW.out, HX.out.chk.fr⟩
    | cons b tl =>
      obtain ⟨g, o, c, rfl, hh⟩ := queue_head HQ.out
      obtain ⟨e0, e1, e2, e3, e4⟩ := HX.out.chk.cells
      have hpos : (0 : Int) < ((tl.length + 1 : Nat) : Int) := by omega
      have hkk : marks.count false + (b :: tl).length ≤ gk := hk
      go_wp2_with (fail)
      go_loopw [31, 6] (fun a q W => ∃ (i : Nat) (marks : List Bool) (tl : List Int), a = .int .i64 i ∧ i ≤ G.prods.length ∧ marks.count false + (b :: tl).length ≤ gk ∧ Aside0 (CW w W G A0 A1 A2 A3 c0 c1 c2 c3 (.slice (some ⟨gb, 0, none⟩) G.rules.length cap) marks) ∧ Aside0 (kI.Q 3 W (w.heap.size + 1) (fun _ => True) q (b :: tl)) ∧ Aside0 (RcSt G may marks (b :: tl)) ∧ Aside0 (∀ j, j < i → Did G may marks b j)) (fun a _ _ => G.prods.length - (intOf a).toNat)
      case atStart => exact ⟨0, marks, tl, rfl, Nat.zero_le _, hkk, HX, HQ, HS, ⟨fun j hj => absurd hj (by omega)⟩⟩
      case round =>
        clear HX HQ HS hk hkk hh e0 e1 e2 e3 e4 hpos
        obtain ⟨i, marks, tl, rfl, hi, hk, HX, HQ, HS, HD⟩ := hrel
        by_cases hlt : i < G.prods.length
        · have HLT := Aside0.mk hlt
          obtain ⟨ad, B1, d1, B6, d6, rfl, x0, x1, x2, x3, x4, x5, x6, hl1, hC1, hl6, hC6⟩ := at_T57 HG.out.prods (i : Int) (by omega) (by omega)
          simp only [Int.toNat_natCast] at x0 x1 x2 x3 x4 x5 x6
          have y0 := HX.out.chk.fr.cell x0 id
          have y1 := HX.out.chk.fr.cell x1 id
          have y2 := HX.out.chk.fr.cell x2 id
          have y3 := HX.out.chk.fr.cell x3 id
          have y4 := HX.out.chk.fr.cell x4 id
          have y5 := HX.out.chk.fr.cell x5 id
          have y6 := HX.out.chk.fr.cell x6 id
          have HC1 := Aside0.mk hC1
          have HMI := Aside0.mk (fun W hF => HM.out i W B1 B6 d1 d6 hlt hF hC6 hC1 hl1)
          have HPI := Aside0.mk (HC.out.prodsOk i hlt)
          clear x0 x1 x2 x3 x4 x5 x6 hC1 hC6 hl6 hl1
          go_upto_region 9 with fail
          have HXA := Aside0.mk (HX.out.go ((Fr.refl (fun _ => False) wr).alloc (.cells #[.int .i64 (rd_T57 G.prods (i : Int)).f0, .slice B1 (rd_T57 G.prods (i : Int)).f1.length d1, .int .i64 (rd_T57 G.prods (i : Int)).f2, .int .i64 (rd_T57 G.prods (i : Int)).f3.f0, .int .i64 (rd_T57 G.prods (i : Int)).f3.f1, .string (rd_T57 G.prods (i : Int)).f3.f2, .slice B6 (rd_T57 G.prods (i : Int)).f3.f3.length d6] 57)))
          have HQA := Aside0.mk (Kd.Q_alloc HQ.out (.cells #[.int .i64 (rd_T57 G.prods (i : Int)).f0, .slice B1 (rd_T57 G.prods (i : Int)).f1.length d1, .int .i64 (rd_T57 G.prods (i : Int)).f2, .int .i64 (rd_T57 G.prods (i : Int)).f3.f0, .int .i64 (rd_T57 G.prods (i : Int)).f3.f1, .string (rd_T57 G.prods (i : Int)).f3.f2, .slice B6 (rd_T57 G.prods (i : Int)).f3.f3.length d6] 57))
          have HPB := Aside0.mk (blk_new wr (.cells #[.int .i64 (rd_T57 G.prods (i : Int)).f0, .slice B1 (rd_T57 G.prods (i : Int)).f1.length d1, .int .i64 (rd_T57 G.prods (i : Int)).f2, .int .i64 (rd_T57 G.prods (i : Int)).f3.f0, .int .i64 (rd_T57 G.prods (i : Int)).f3.f1, .string (rd_T57 G.prods (i : Int)).f3.f2, .slice B6 (rd_T57 G.prods (i : Int)).f3.f3.length d6] 57))
          generalize wr.alloc (.cells #[.int .i64 (rd_T57 G.prods (i : Int)).f0, .slice B1 (rd_T57 G.prods (i : Int)).f1.length d1, .int .i64 (rd_T57 G.prods (i : Int)).f2, .int .i64 (rd_T57 G.prods (i : Int)).f3.f0, .int .i64 (rd_T57 G.prods (i : Int)).f3.f1, .string (rd_T57 G.prods (i : Int)).f3.f2, .slice B6 (rd_T57 G.prods (i : Int)).f3.f3.length d6] 57) = W5 at HXA HPB HQA ⊢
          generalize wr.heap.size = q at HPB ⊢
          clear y0 y1 y2 y3 y4 y5 y6 HX HQ
          have hro := HPI.out.2.2.2
          have hrl := HPI.out.2.2.1
          have hb0 := (HS.out.que b List.mem_cons_self).1
          have hlf0 := HPI.out.1
          have HSN := Aside0.mk (HS.out.snd b.toNat (by rw [Int.toNat_of_nonneg hb0]; exact (HS.out.que b List.mem_cons_self).2.2))
          have HRC := Aside0.mk (show (rd_T57 G.prods (i : Int)).f0 = b → may i = true → ∀ x, x ∈ (rd_T57 G.prods (i : Int)).f1 → (G.kinds.length : Int) ≤ x → Rch G may (x - G.kinds.length).toNat from fun e hm x hx hk => Rch.next (a := b.toNat) (i := i) HSN.out HLT.out (by rw [Int.toNat_of_nonneg hb0]; exact e) hm hx hk)
          have HDN := Aside0.mk (show ∀ marks : List Bool, ((rd_T57 G.prods (i : Int)).f0 = b → may i = true → ∀ x, x ∈ (rd_T57 G.prods (i : Int)).f1 → Marked G marks x) → Did G may marks b i from fun _ h => h)
          rw [show rd_T57 G.prods i = rd_T57 G.prods (i : Int) from rfl] at hro hrl hlf0
          have HRO := Aside0.mk hro
          clear hro HSN hlf0
          have HPI : Aside0 (0 ≤ (rd_T57 G.prods (i : Int)).f0 ∧ (rd_T57 G.prods (i : Int)).f0 < G.rules.length) := ⟨HPI.out.1, HPI.out.2.1⟩
          generalize rd_T57 G.prods (i : Int) = pr at HPB HMI HPI HRC HDN HRO hrl HC1 ⊢
          obtain ⟨g, o, c, rfl, hh⟩ := queue_head HQA.out
          have z0 := (blk_cell HPB.out 0).trans (show _ = some (Value.int .i64 pr.f0) from rfl)
          have z1 := (blk_cell HPB.out 1).trans (show _ = some (Value.slice B1 pr.f1.length d1) from rfl)
          have z2 := (blk_cell HPB.out 2).trans (show _ = some (Value.int .i64 pr.f2) from rfl)
          have z3 := (blk_cell HPB.out 3).trans (show _ = some (Value.int .i64 pr.f3.f0) from rfl)
          have z4 := (blk_cell HPB.out 4).trans (show _ = some (Value.int .i64 pr.f3.f1) from rfl)
          have z5 := (blk_cell HPB.out 5).trans (show _ = some (Value.string pr.f3.f2) from rfl)
          have z6 := (blk_cell HPB.out 6).trans (show _ = some (Value.slice B6 pr.f3.f3.length d6) from rfl)
          have hn9 : ∀ e : Bool, may i = e → may i = e := fun _ h => h
          by_cases hl : pr.f0 = b
          · rw [hl] at z0 HMI HRC HDN
            cases hmi : may i with
            | false =>
              have HDI := Aside0.mk (show Did G may marks b i from HDN.out marks (fun _ h => by rw [hmi] at h; cases h))
              rw [hmi] at HMI
              go_wp2_with (fail)
              go_region_held3 (fun w' => w'.cell? ⟨q, 0, none⟩ = some (.int .i64 b) ∧ w'.cell? ⟨q, 1, none⟩ = some (.slice B1 pr.f1.length d1) ∧ w'.cell? ⟨q, 2, none⟩ = some (.int .i64 pr.f2) ∧ w'.cell? ⟨q, 3, none⟩ = some (.int .i64 pr.f3.f0) ∧ w'.cell? ⟨q, 4, none⟩ = some (.int .i64 pr.f3.f1) ∧ w'.cell? ⟨q, 5, none⟩ = some (.string pr.f3.f2) ∧ w'.cell? ⟨q, 6, none⟩ = some (.slice B6 pr.f3.f3.length d6) ∧ w'.cell? ⟨g, o, none⟩ = some (.int .i64 b)) (go_keep)
                (first | (go_at_call 32; refine (HMI.out _ (HXA.out.chk.fr.trans ((Fr.refl (fun _ => False) W5).drew) (fun _ _ hf => hf))).mono ?_; rintro e W6 ⟨rfl, hF6⟩; have HF6 := Aside0.mk (((Fr.refl (fun _ => False) W5).drew).trans hF6 (fun _ _ hf => hf)); have HPB6 := Aside0.mk (HF6.out.blk HPB.out id); have t0 := HF6.out.cell z0 id; have t1 := HF6.out.cell z1 id; have t2 := HF6.out.cell z2 id; have t3 := HF6.out.cell z3 id; have t4 := HF6.out.cell z4 id; have t5 := HF6.out.cell z5 id; have t6 := HF6.out.cell z6 id; have th := HF6.out.cell hh id; clear hF6))
              have HX6 := Aside0.mk (HXA.out.go HF6.out)
              have HQ6 := Aside0.mk (Kd.Q_below HQA.out HF6.out.to_below)
              have HD6 := Aside0.mk (show ∀ j, j < i + 1 → Did G may marks b j from fun j hj => by
                by_cases ej : j = i
                · rw [ej]; exact HDI.out
                · exact HD.out j (by omega))
              go_wp2_with (fail)
              exact ⟨⟨i + 1, marks, tl, by go_num, HLT.out, hk, HX6, HQ6, HS, HD6⟩, by have := HLT.out; simp [intOf]; omega⟩
            | true =>
              rw [hmi] at HMI HRC
              have HDN2 := Aside0.mk (show ∀ marks : List Bool, (∀ x, x ∈ pr.f1 → Marked G marks x) → Did G may marks b i from fun m h => HDN.out m (fun _ _ => h))
              have HRC2 := Aside0.mk (show ∀ x, x ∈ pr.f1 → (G.kinds.length : Int) ≤ x → Rch G may (x - G.kinds.length).toNat from HRC.out rfl rfl)
              clear HDN HRC hn9
              go_wp2_with (fail)
              go_region_held3 (fun w' => w'.cell? ⟨q, 0, none⟩ = some (.int .i64 b) ∧ w'.cell? ⟨q, 1, none⟩ = some (.slice B1 pr.f1.length d1) ∧ w'.cell? ⟨q, 2, none⟩ = some (.int .i64 pr.f2) ∧ w'.cell? ⟨q, 3, none⟩ = some (.int .i64 pr.f3.f0) ∧ w'.cell? ⟨q, 4, none⟩ = some (.int .i64 pr.f3.f1) ∧ w'.cell? ⟨q, 5, none⟩ = some (.string pr.f3.f2) ∧ w'.cell? ⟨q, 6, none⟩ = some (.slice B6 pr.f3.f3.length d6) ∧ w'.cell? ⟨g, o, none⟩ = some (.int .i64 b)) (go_keep)
                (first | (go_at_call 32; refine (HMI.out _ (HXA.out.chk.fr.trans ((Fr.refl (fun _ => False) W5).drew) (fun _ _ hf => hf))).mono ?_; rintro e W6 ⟨rfl, hF6⟩; have HF6 := Aside0.mk (((Fr.refl (fun _ => False) W5).drew).trans hF6 (fun _ _ hf => hf)); have HPB6 := Aside0.mk (HF6.out.blk HPB.out id); have t0 := HF6.out.cell z0 id; have t1 := HF6.out.cell z1 id; have t2 := HF6.out.cell z2 id; have t3 := HF6.out.cell z3 id; have t4 := HF6.out.cell z4 id; have t5 := HF6.out.cell z5 id; have t6 := HF6.out.cell z6 id; have th := HF6.out.cell hh id; clear hF6))
              have HX6 := Aside0.mk (HXA.out.go HF6.out)
              have HQ6 := Aside0.mk (Kd.Q_below HQA.out HF6.out.to_below)
              clear HXA HQA HPB HMI HF6 z0 z1 z2 z3 z4 z5 z6 hh hmi
              go_wp2_with (fail)
              clear HPB6 t0 t1 t2 t3 t4 t5 t6 th
              go_loopw [50, 6] (fun a q W => ∃ (t : Nat) (marks : List Bool) (tl : List Int), a = .int .i64 t ∧ t ≤ pr.f1.length ∧ marks.count false + (b :: tl).length ≤ gk ∧ Aside0 (CW w W G A0 A1 A2 (some ad) c0 c1 c2 c3 (.slice (some ⟨gb, 0, none⟩) G.rules.length cap) marks) ∧ Aside0 (kI.Q 3 W (w.heap.size + 1) (fun _ => True) q (b :: tl)) ∧ Aside0 (RcSt G may marks (b :: tl)) ∧ Aside0 (∀ j, j < i → Did G may marks b j) ∧ Aside0 (∀ x, x ∈ pr.f1.take t → Marked G marks x)) (fun a _ _ => pr.f1.length - (intOf a).toNat)
              case atStart => exact ⟨0, marks, tl, rfl, Nat.zero_le _, hk, HX6, HQ6, HS, HD, ⟨fun x hx => by simp at hx⟩⟩
              case round =>
                clear HX6 HQ6 HS HD hk
                obtain ⟨t, marks, tl, rfl, ht, hk, HX, HQ, HS, HD, HT⟩ := hrel
                by_cases htl : t < pr.f1.length
                · have HTL := Aside0.mk htl
                  obtain ⟨ax, rfl, hx⟩ := Kd.at_int (HX.out.chk.fr.C (S := fun _ => False) (0 : Int) HC1.out (fun _ _ _ => id)) (t : Int) (by omega) (by omega)
                  simp only [Int.toNat_natCast] at hx
                  obtain ⟨hx1, hx2⟩ := HRO.out t htl
                  have HMX := Aside0.mk (show rd pr.f1 (t : Int) ∈ pr.f1 from rd_mem htl)
                  have HTK := Aside0.mk (show ∀ y, y ∈ pr.f1.take (t + 1) → y ∈ pr.f1.take t ∨ y = rd pr.f1 (t : Int) from fun y hy => by
                    rw [List.take_add_one, List.getElem?_eq_getElem HTL.out] at hy
                    simp only [Option.toList_some, List.mem_append, List.mem_singleton] at hy
                    rcases hy with hy | hy
                    · exact .inl hy
                    · exact .inr (by rw [hy]; simp [rd, List.getD_eq_getElem?_getD, HTL.out]))
                  generalize rd pr.f1 (t : Int) = x at hx hx1 hx2 HMX HTK
                  obtain ⟨e0, e1, e2, e3, e4⟩ := HX.out.chk.cells
                  go_wp2_with (fail)
                  refine (isRule_calls _ G A0 A1 A2 (some ad) c0 c1 c2 c3 (HG.out.go HX.out.chk.fr) hK2 x hx1 (by omega)).mono ?_
                  rintro e W7 ⟨rfl, hF7⟩
                  have HX7 := Aside0.mk (HX.out.go hF7)
                  have HQ7 := Aside0.mk (Kd.Q_below HQ.out hF7.to_below)
                  clear HX HQ hF7 e0 e1 e2 e3 e4 hx
                  by_cases hxk : x < G.kinds.length
                  · rw [if_pos hxk]
                    have HT2 := Aside0.mk (show ∀ y, y ∈ pr.f1.take (t + 1) → Marked G marks y from fun y hy => by
                      rcases HTK.out y hy with hy | rfl
                      · exact HT.out y hy
                      · exact fun h => absurd hxk (by omega))
                    go_wp2_with (fail)
                    exact ⟨⟨t + 1, marks, tl, by go_num, HTL.out, hk, HX7, HQ7, HS, HD, HT2⟩, by have := HTL.out; simp [intOf]; omega⟩
                  · rw [if_neg hxk]
                    have HRX := Aside0.mk (HRC2.out x HMX.out (by omega))
                    have ha0 : 0 ≤ x - G.kinds.length := by omega
                    have ha1 : x - G.kinds.length < G.rules.length := by omega
                    have HEQ := Aside0.mk (show (x - G.kinds.length : Int) = x - G.kinds.length from rfl)
                    have HMK := Aside0.mk (show ∀ marks : List Bool, rdOf false marks (x - G.kinds.length) = true → Marked G marks x from fun _ h _ => h)
                    clear HEQ
                    generalize x - (G.kinds.length : Int) = a at ha0 ha1 HRX HMK ⊢
                    obtain ⟨hm, hfz⟩ := HX7.out.at HS.out.len ha0 ha1
                    cases hma : rdOf false marks a with
                    | true =>
                      rw [hma] at hm
                      have HT2 := Aside0.mk (show ∀ y, y ∈ pr.f1.take (t + 1) → Marked G marks y from fun y hy => by
                        rcases HTK.out y hy with hy | rfl
                        · exact HT.out y hy
                        · exact HMK.out _ hma)
                      go_wp2_with (fail)
                      exact ⟨⟨t + 1, marks, tl, by go_num, HTL.out, hk, HX7, HQ7, HS, HD, HT2⟩, by have := HTL.out; simp [intOf]; omega⟩
                    | false =>
                      rw [hma] at hm
                      obtain ⟨hS8, hc8⟩ := HS.out.push ha0 ha1 HRX.out hma
                      have HX8 := Aside0.mk (HX7.out.mark HS.out.len a).1
                      have HQ8 := Aside0.mk (queue_mark HX7.out HQ7.out a.toNat (.bool true))
                      have HS8 := Aside0.mk (show RcSt G may (marks.set a.toNat true) (b :: (tl ++ [a])) from hS8)
                      have hk8 : (marks.set a.toNat true).count false + (b :: (tl ++ [a])).length ≤ gk := by
                        have : (b :: (tl ++ [a])) = (b :: tl) ++ [a] := rfl
                        rw [this, hc8]
                        exact hk
                      have HD8 := Aside0.mk (show ∀ j, j < i → Did G may (marks.set a.toNat true) b j from fun j hj => (HD.out j hj).set)
                      have HT8 := Aside0.mk (show ∀ y, y ∈ pr.f1.take (t + 1) → Marked G (marks.set a.toNat true) y from fun y hy => by
                        rcases HTK.out y hy with hy | rfl
                        · exact fun h => marked_set (HT.out y hy h)
                        · refine HMK.out _ ?_
                          have := rdOf_set (l := marks) (i := a.toNat) (by rw [HS.out.len]; omega) a.toNat
                          rwa [if_pos rfl, Int.toNat_of_nonneg ha0] at this)
                      have HLEN := Aside0.mk (show (b :: tl).length ≤ 2048 by omega)
                      clear hS8 hc8 HS HD HT HMK HTK hk HRX hma
                      go_upto_region 16 with fail
                      clear hm hfz HX7 HQ7
                      generalize W7.setCell ⟨gb, a.toNat, none⟩ (.bool true) = W8 at HX8 HQ8 ⊢
                      go_wp2_with (first | ((with_reducible refine gate_builtin (b := .append) (xs := #[.tmp 69, .tmp 71]) rfl ?_); at_builtin; refine Kd.Q_append kI (w0 := W8) (w.heap.size + 1) rfl (.tmp 69) (.tmp 71) 27 3 (.int .i64 0) 8 rfl Try.underlying27 info3 rfl (by decide) (by omega) _ (b :: tl) a [.int .i64 a] (fun _ => True) (fun _ => False) rfl rfl ?aP (fun _ hk => hk.elim) ?aF HQ8.out ?aB ?aS ?aL ?_; (case aP => exact rfl); (case aF => exact (fun _ _ => trivial)); (case aB => exact Below.refl _ _); (case aS => exact (blk_lt HX8.out.chk.box)); (case aL => have := HLEN.out; omega); intro v9 W9 hq9 hb9 hg9 hat9; have HX9 := Aside0.mk (HX8.out.over HQ8.out hg9); have HQ9 := Aside0.mk (show kI.Q 3 W9 (w.heap.size + 1) (fun _ => True) v9 (b :: (tl ++ [a])) from hq9); clear hq9 hb9 hg9 hat9))
                      exact ⟨⟨t + 1, _, _, by go_num, HTL.out, hk8, HX9, HQ9, HS8, HD8, HT8⟩, by have := HTL.out; simp [intOf]; omega⟩
                · obtain rfl : t = pr.f1.length := by omega
                  have HD6 := Aside0.mk (show ∀ j, j < i + 1 → Did G may marks b j from fun j hj => by
                    by_cases ej : j = i
                    · rw [ej]; exact HDN2.out marks (fun x hx => HT.out x (by rw [List.take_length]; exact hx))
                    · exact HD.out j (by omega))
                  go_wp2_with (fail)
                  exact ⟨⟨i + 1, marks, tl, by go_num, HLT.out, hk, HX, HQ, HS, HD6⟩, by have := HLT.out; simp [intOf]; omega⟩
          · have HDI := Aside0.mk (show Did G may marks b i from HDN.out marks (fun h => absurd h hl))
            go_wp2_with (fail)
            refine wp_region_held_drew (S := fun w' => w'.cell? ⟨q, 0, none⟩ = some (.int .i64 pr.f0) ∧ w'.cell? ⟨g, o, none⟩ = some (.int .i64 b)) (by kernel_rfl) ⟨by simp only [World.cell?_drew]; exact z0, by simp only [World.cell?_drew]; exact hh⟩ (fun hHeld => ?_)
            refine wpAnyH_take (i := 0) (oi := ?o0) (v := ?v0) ?ho0 (by kernel_rfl) (by kernel_rfl) (by kernel_rfl) ?hq0 ?hy0 (by assumption) ?rest0
            case ho0 => (simp only [List.getElem?_toArray, List.getElem?_cons_zero]; rfl)
            case hq0 => exact fun _ _ _ h => h
            case hy0 => (refine Or.inl ⟨by rfl, ?_⟩; intro w0 hSw; (try dsimp only at hSw); go_simp; try with_reducible rfl)
            try simp only [Act.put, List.setIfInBounds_toArray, List.set_cons_zero, List.set_cons_succ]
            refine wpAnyH_take (i := 1) (oi := ?o1) (v := ?v1) ?ho1 (by kernel_rfl) (by kernel_rfl) (by kernel_rfl) ?hq1 ?hy1 (by assumption) ?rest1
            case ho1 => (simp only [List.getElem?_toArray, List.getElem?_cons_succ, List.getElem?_cons_zero]; rfl)
            case hq1 => exact fun _ _ _ h => h
            case hy1 => (refine Or.inl ⟨by rfl, ?_⟩; intro w0 hSw; (try dsimp only at hSw); go_simp; try with_reducible rfl)
            try simp only [Act.put, List.setIfInBounds_toArray, List.set_cons_zero, List.set_cons_succ]
            refine wpAnyH_take (i := 2) (oi := ?o2) (v := ?v2) ?ho2 (by kernel_rfl) (by kernel_rfl) (by kernel_rfl) ?hq2 ?hy2 (by assumption) ?rest2
            case ho2 => (simp only [List.getElem?_toArray, List.getElem?_cons_succ, List.getElem?_cons_zero]; rfl)
            case hq2 => exact fun _ _ _ h => h
            case hy2 => (refine Or.inl ⟨by rfl, ?_⟩; intro w0 hSw; (try dsimp only at hSw); go_simp; try with_reducible rfl)
            try simp only [Act.put, List.setIfInBounds_toArray, List.set_cons_zero, List.set_cons_succ]
            refine wpAnyH_take (i := 3) (oi := ?o3) (v := ?v3) ?ho3 (by kernel_rfl) (by kernel_rfl) (by kernel_rfl) ?hq3 ?hy3 (by assumption) ?rest3
            case ho3 => (simp only [List.getElem?_toArray, List.getElem?_cons_succ, List.getElem?_cons_zero]; rfl)
            case hq3 => exact fun _ _ _ h => h
            case hy3 => (refine Or.inl ⟨by rfl, ?_⟩; intro w0 hSw; (try dsimp only at hSw); go_simp; try with_reducible rfl)
            try simp only [Act.put, List.setIfInBounds_toArray, List.set_cons_zero, List.set_cons_succ]
            refine wpAnyH_take (i := 4) (oi := ?o4) (v := ?v4) ?ho4 (by kernel_rfl) (by kernel_rfl) (by kernel_rfl) ?hq4 ?hy4 (by assumption) ?rest4
            case ho4 => (simp only [List.getElem?_toArray, List.getElem?_cons_succ, List.getElem?_cons_zero]; rfl)
            case hq4 => exact fun _ _ _ h => h
            case hy4 => (refine Or.inl ⟨by rfl, ?_⟩; intro w0 hSw; (try dsimp only at hSw); go_simp; try with_reducible rfl)
            try simp only [Act.put, List.setIfInBounds_toArray, List.set_cons_zero, List.set_cons_succ]
            refine wpAnyH_take (i := 5) (oi := ?o5) (v := .bool true) ?ho5 (by kernel_rfl) (by kernel_rfl) (by kernel_rfl) ?hq5 ?hy5 (by assumption) ?rest5
            case ho5 => (simp only [List.getElem?_toArray, List.getElem?_cons_succ, List.getElem?_cons_zero]; rfl)
            case hq5 => exact fun _ _ _ h => h
            case hy5 => (refine Or.inl ⟨by rfl, ?_⟩; intro w0 hSw; (try dsimp only at hSw); go_simp; try with_reducible rfl)
            try simp only [Act.put, List.setIfInBounds_toArray, List.set_cons_zero, List.set_cons_succ]
            refine wpAnyH_take (i := 6) (oi := ?o6) (v := ?v6) ?ho6 (by kernel_rfl) (by kernel_rfl) (by kernel_rfl) ?hq6 ?hy6 (by assumption) ?rest6
            case ho6 => (simp only [List.getElem?_toArray, List.getElem?_cons_succ, List.getElem?_cons_zero]; rfl)
            case hq6 => exact fun _ _ _ h => h
            case hy6 => (refine Or.inl ⟨by rfl, ?_⟩; intro w0 hSw; (try dsimp only at hSw); go_simp; try with_reducible rfl)
            try simp only [Act.put, List.setIfInBounds_toArray, List.set_cons_zero, List.set_cons_succ]
            refine wpAnyH_take (i := 7) (oi := ?o7) (v := undef) ?ho7 (by kernel_rfl) (by kernel_rfl) (by kernel_rfl) ?hq7 ?hy7 (by assumption) ?rest7
            case ho7 => (simp only [List.getElem?_toArray, List.getElem?_cons_succ, List.getElem?_cons_zero]; rfl)
            case hq7 => exact fun _ _ _ h => h
            case hy7 => exact Or.inr ⟨by rfl, rfl⟩
            try simp only [Act.put, List.setIfInBounds_toArray, List.set_cons_zero, List.set_cons_succ]
            refine wpAnyH_take (i := 8) (oi := ?o8) (v := undef) ?ho8 (by kernel_rfl) (by kernel_rfl) (by kernel_rfl) ?hq8 ?hy8 (by assumption) ?rest8
            case ho8 => (simp only [List.getElem?_toArray, List.getElem?_cons_succ, List.getElem?_cons_zero]; rfl)
            case hq8 => exact fun _ _ _ h => h
            case hy8 => exact Or.inr ⟨by rfl, rfl⟩
            try simp only [Act.put, List.setIfInBounds_toArray, List.set_cons_zero, List.set_cons_succ]
            refine wpAnyH_ready (rs := [9]) (by kernel_rfl) (by simp) ?_
            refine AllReadyH.cons (o := ?o9) ?ho9 ?hs9 AllReadyH.nil
            case ho9 => (simp only [List.getElem?_toArray, List.getElem?_cons_succ, List.getElem?_cons_zero]; rfl)
            intro K hK
            go_simp
            refine hK.out _ _ (by assumption) (fun hHeld => ?_)
            clear hK K
            try simp only [Act.put, List.setIfInBounds_toArray, List.set_cons_zero, List.set_cons_succ]
            refine wpAnyH_take (i := 10) (oi := ?o10) (v := undef) ?ho10 (by kernel_rfl) (by kernel_rfl) (by kernel_rfl) ?hq10 ?hy10 (by assumption) ?rest10
            case ho10 => (simp only [List.getElem?_toArray, List.getElem?_cons_succ, List.getElem?_cons_zero]; rfl)
            case hq10 => exact fun _ _ _ h => h
            case hy10 => exact Or.inr ⟨by rfl, rfl⟩
            try simp only [Act.put, List.setIfInBounds_toArray, List.set_cons_zero, List.set_cons_succ]
            refine wpAnyH_take (i := 11) (oi := ?o11) (v := ?v11) ?ho11 (by kernel_rfl) (by kernel_rfl) (by kernel_rfl) ?hq11 ?hy11 (by assumption) ?rest11
            case ho11 => (simp only [List.getElem?_toArray, List.getElem?_cons_succ, List.getElem?_cons_zero]; rfl)
            case hq11 => exact fun _ _ _ h => h
            case hy11 => (refine Or.inl ⟨by rfl, ?_⟩; intro w0 hSw; (try dsimp only at hSw); go_simp; try with_reducible rfl)
            try simp only [Act.put, List.setIfInBounds_toArray, List.set_cons_zero, List.set_cons_succ]
            refine wpAnyH_done (by kernel_rfl) ?_ _
            have HX6 := Aside0.mk (HXA.out.go (Fr.refl (fun _ => False) W5).drew)
            have HQ6 := Aside0.mk (Kd.Q_drew HQA.out)
            have HD6 := Aside0.mk (show ∀ j, j < i + 1 → Did G may marks b j from fun j hj => by
              by_cases ej : j = i
              · rw [ej]; exact HDI.out
              · exact HD.out j (by omega))
            go_wp2_with (fail)
            exact ⟨⟨i + 1, marks, tl, by go_num, HLT.out, hk, HX6, HQ6, HS, HD6⟩, by have := HLT.out; simp [intOf]; omega⟩
        · obtain rfl : i = G.prods.length := by omega
          obtain ⟨A, c, rfl, _⟩ := Kd.Q_slice HQ.out
          obtain ⟨A', n', c', hcut, hQ'⟩ := queue_cut HQ.out (by simp)
          have HQ' := Aside0.mk (show kI.Q 3 wr (w.heap.size + 1) (fun _ => True) (.slice A' n' c') tl from hQ')
          have HS' := Aside0.mk (HS.out.pop HD.out)
          clear hQ'
          simp only [List.length_cons] at hk hcut ⊢
          go_wp2_with (fail)
          go_roundg (gk - 1)
          case measure => omega
          case rel => exact ⟨marks, tl, by omega, by omega, HX, HQ', HS'⟩
end Go.Proofs.Ytdngobjcdajogaa.Gram
namespace Go.Proofs.Ytdngobjcdajogaa.Gram
open Go.RowKit Go.Proofs.YtdngobjcdajogaaW.PrintWords Go.Proofs.YtdngobjcdajogaaW.PrintLast Go.Proofs.YtdngobjcdajogaaW.PrintMore Go.Proofs.Ytdngobjcdajogaa.Fr Go.Proofs.Ytdngobjcdajogaa.PGramFirsts Go.Proofs.Ytdngobjcdajogaa.TextSet
/-- How many rules below a stay. -/
def numF (kp : Nat → Bool) (a : Nat) : Nat := ((List.range a).filter kp).length
/-- The rules' new numbers, as far as k. -/
def numL (kp : Nat → Bool) (R k : Nat) : List Int := (List.range R).map fun a => if a < k ∧ kp a = true then (numF kp a : Int) else 0
def rulesL (kp : Nat → Bool) (rules : List ByteArray) (k : Nat) : List ByteArray := ((List.range k).filter kp).map fun a => rdS rules a
def symT (K : Nat) (num : List Int) (x : Int) : Int := if x < K then x else K + rd num (x - K)
def prodT (K : Nat) (num : List Int) (p : S57) : S57 := ⟨rd num p.f0, p.f1.map (symT K num), p.f2, p.f3⟩
def prodsL (K : Nat) (stays : S57 → Bool) (num : List Int) (ps : List S57) : List S57 := (ps.filter stays).map (prodT K num)
noncomputable def proL (G : Gr) : List Bool := closedL G true
/-- The productions that may stay. -/
noncomputable def mayT (G : Gr) (i : Nat) : Bool := goodB G.kinds.length (proL G) (rd_T57 G.prods i)
noncomputable def keepL (G : Gr) : List Bool := reachL G (mayT G)
noncomputable def kpT (G : Gr) (a : Nat) : Bool := rdOf false (keepL G) a && rdOf false (proL G) a
noncomputable def staysT (G : Gr) (p : S57) : Bool := goodB G.kinds.length (proL G) p && rdOf false (keepL G) p.f0
noncomputable def numT (G : Gr) : List Int := numL (kpT G) G.rules.length G.rules.length
/-- The grammar without what is of no use. -/
noncomputable def trimG (G : Gr) : Gr where
  kinds := G.kinds
  precs := G.precs
  rules := rulesL (kpT G) G.rules G.rules.length
  prods := prodsL G.kinds.length (staysT G) (numT G) G.prods
  start := rd (numT G) G.start
theorem numL_zero (kp : Nat → Bool) (R : Nat) : numL kp R 0 = List.replicate R 0 := by
  apply List.ext_getElem (by simp [numL])
  intro a h1 h2
  simp [numL]
theorem numL_true {kp : Nat → Bool} {R k : Nat} (h : kp k = true) : numL kp R (k + 1) = (numL kp R k).set k (numF kp k) := by
  apply List.ext_getElem (by simp [numL])
  intro a h1 h2
  simp only [numL, List.getElem_map, List.getElem_range, List.getElem_set]
  by_cases e : k = a
  · subst e
    simp [h]
  · have : a < k + 1 ↔ a < k := by omega
    simp [e, this]
theorem numL_false {kp : Nat → Bool} {R k : Nat} (h : kp k = false) : numL kp R (k + 1) = numL kp R k := by
  apply List.ext_getElem (by simp [numL])
  intro a h1 h2
  simp only [numL, List.getElem_map, List.getElem_range]
  by_cases e : a = k
  · subst e
    simp [h]
  · have : a < k + 1 ↔ a < k := by omega
    simp [this]
theorem rulesL_true {kp : Nat → Bool} {rules : List ByteArray} {k : Nat} (h : kp k = true) : rulesL kp rules (k + 1) = rulesL kp rules k ++ [rdS rules k] := by
  simp [rulesL, List.range_succ, h]
theorem rulesL_false {kp : Nat → Bool} {rules : List ByteArray} {k : Nat} (h : kp k = false) : rulesL kp rules (k + 1) = rulesL kp rules k := by
  simp [rulesL, List.range_succ, h]
theorem rulesL_len (kp : Nat → Bool) (rules : List ByteArray) (k : Nat) : (rulesL kp rules k).length = numF kp k := by simp [rulesL, numF]
theorem numF_le (kp : Nat → Bool) (k : Nat) : numF kp k ≤ k := by
  have := List.length_filter_le kp (List.range k)
  simpa [numF] using this
theorem take_T57 {l : List S57} {k : Nat} (h : k < l.length) : l.take (k + 1) = l.take k ++ [rd_T57 l k] := by
  rw [List.take_add_one]
  simp [rd_T57, List.getD_eq_getElem?_getD, h]
theorem prodsL_true {K : Nat} {stays : S57 → Bool} {num : List Int} {l : List S57} {k : Nat} (h : k < l.length) (hs : stays (rd_T57 l k) = true) : prodsL K stays num (l.take (k + 1)) = prodsL K stays num (l.take k) ++ [prodT K num (rd_T57 l k)] := by
  simp [prodsL, take_T57 h, hs]
theorem prodsL_false {K : Nat} {stays : S57 → Bool} {num : List Int} {l : List S57} {k : Nat} (h : k < l.length) (hs : stays (rd_T57 l k) = false) : prodsL K stays num (l.take (k + 1)) = prodsL K stays num (l.take k) := by
  simp [prodsL, take_T57 h, hs]
theorem prodsL_len (K : Nat) (stays : S57 → Bool) (num : List Int) (l : List S57) : (prodsL K stays num l).length ≤ l.length := by
  simp only [prodsL, List.length_map]
  exact List.length_filter_le _ _
abbrev zP : Array Value := #[.slice none 0 0, .slice none 0 0, .slice none 0 0, .slice none 0 0, .int .i64 0]
/-- Behind the making of the new grammar: its block o, and the rows that it holds. -/
structure TL (Wk W : World) (G : Gr) (o kc pc : Nat) (KA PA : Option Addr) : Prop where
  fr : Fr (fun _ => False) Wk W
  lo : Wk.heap.size ≤ o
  box : W.heap[o]? = some (.cells #[.slice KA G.kinds.length kc, .slice PA G.precs.length pc, .slice none 0 0, .slice none 0 0, .int .i64 0] 26 (0, 0))
  kin : Kd.string.R 9 W Wk.heap.size (fun _ => True) (.slice KA G.kinds.length kc) G.kinds
  pre : k73.R 73 W Wk.heap.size (fun _ => True) (.slice PA G.precs.length pc) G.precs
def TLPost (Wk : World) (G : Gr) (s : Value) (W : World) : Prop := ∃ o kc pc KA PA, s = .pointer (some ⟨o, 0, none⟩) ∧ TL Wk W G o kc pc KA PA
theorem R_rowP {α : Type} {d : Kd α} {e : Nat} {W : World} {B q : Nat} {ok : Nat → Prop} {v : Value} {l : List α} {old : Array Value} (h : d.R e W B ok v l) (hq : W.heap[q]? = some (.cells old 26 (0, 0))) (ht : ∀ t, t ∈ e :: d.E → t ≠ 26) (cs : Array Value) : d.R e (W.setRow q cs) B ok v l := by
  have h2 := Kd.R_types h hq ht
  exact Kd.R_mono (Kd.R_step h2 (fun k hk _ => setRow_other W q k cs hk.2)) (fun _ hk => hk.1)
theorem TLPost.of {Wk W : World} {G : Gr} {o kc pc : Nat} {KA PA : Option Addr} (hF : Fr (fun _ => False) Wk W) (hlo : Wk.heap.size ≤ o) (hb : W.heap[o]? = some (.cells zP 26 (0, 0))) (hK : Kd.string.R 9 W Wk.heap.size (fun _ => True) (.slice KA G.kinds.length kc) G.kinds) (hP : k73.R 73 W Wk.heap.size (fun _ => True) (.slice PA G.precs.length pc) G.precs) :
    TLPost Wk G (.pointer (some ⟨o, 0, none⟩)) (W.setRow o #[.slice KA G.kinds.length kc, .slice PA G.precs.length pc, .slice none 0 0, .slice none 0 0, .int .i64 0]) :=
  ⟨o, kc, pc, KA, PA, rfl, fr_row hF _ (fun h => by omega), hlo, setRow_heap _ _ _ _ _ _ hb, R_rowP hK hb (by decide) _, R_rowP hP hb (by decide) _⟩
/-- While the rules are numbered. -/
structure T1 (W2 W : World) (o gn cn R st : Nat) (KV PV RV DV SV : Value) (B : Nat) (N : List Int) (L : List ByteArray) : Prop where
  fr : Fr (fun i => i = o ∨ i = gn) W2 W
  box : W.heap[o]? = some (.cells #[KV, PV, RV, DV, SV] 26 (0, 0))
  num : kI.R 3 W B (fun _ => True) (.slice (some ⟨gn, 0, none⟩) R cn) N
  rul : Kd.string.R 9 W W2.heap.size (fun _ => True) RV L
theorem T1.go {W2 W W1 : World} {o gn cn R st : Nat} {KV PV RV DV SV : Value} {B : Nat} {N : List Int} {L : List ByteArray} (h : T1 W2 W o gn cn R st KV PV RV DV SV B N L) (hF : Fr (fun _ => False) W W1) : T1 W2 W1 o gn cn R st KV PV RV DV SV B N L :=
  ⟨h.fr.trans hF (fun _ _ hf => hf.elim), hF.blk h.box id, Kd.R_below h.num hF.to_below, Kd.R_below h.rul hF.to_below⟩
theorem T1.put {W2 W : World} {o gn cn R st : Nat} {KV PV RV DV SV : Value} {B : Nat} {N : List Int} {L : List ByteArray} (h : T1 W2 W o gn cn R st KV PV RV DV SV B N L) (i : Int) (x : Int) : T1 W2 (W.setCell ⟨gn, i.toNat, none⟩ (.int .i64 x)) o gn cn R st KV PV RV DV SV B (N.set i.toNat x) L := by
  obtain ⟨cc, hc⟩ := Kd.R_typed h.num gn rfl
  have hne : o ≠ gn := typed_ne h.box hc (by decide)
  exact ⟨h.fr.set (g := gn) (o := i.toNat) _ (fun _ => .inr rfl), ((Fr.refl (fun k => k = gn) W).set (g := gn) (o := i.toNat) _ (fun _ => rfl)).blk h.box hne, Kd.R_putn h.num i x, Kd.R_set h.rul hc (by decide) i.toNat _⟩
theorem T1.app {W2 W W1 : World} {o gn cn R st : Nat} {KV PV RV DV SV v1 : Value} {B : Nat} {N : List Int} {L L1 : List ByteArray} (h : T1 W2 W o gn cn R st KV PV RV DV SV B N L) (h1 : Kd.string.R 9 W1 W2.heap.size (fun _ => True) v1 L1) (hg : W.grownBy W1 RV.ownBlock) : T1 W2 (W1.setCell ⟨o, 2, none⟩ v1) o gn cn R st KV PV v1 DV SV B N L1 := by
  have hF : Fr (fun k => RV.ownBlock = some k) W W1 := ⟨hg.os, hg.tape, hg.output, hg.size, fun i hi hn => hg.block i hi (fun e => hn e.symm)⟩
  have hb : ∀ k, RV.ownBlock = some k → W2.heap.size ≤ k := fun k hk => Kd.R_base h.rul k hk
  have hno : RV.ownBlock ≠ some o := fun e => by
    obtain ⟨cc, hc⟩ := Kd.R_typed h.rul o e
    exact typed_ne h.box hc (by decide) rfl
  have hbox := hF.blk h.box hno
  have hnum : kI.R 3 W1 B (fun _ => True) (.slice (some ⟨gn, 0, none⟩) R cn) N := Kd.R_over h.num h.rul (by decide) hg
  refine ⟨(h.fr.trans hF (fun k hk e => by have := hb k e; omega)).set (g := o) (o := 2) _ (fun _ => .inl rfl), blk_set (j := 2) hbox v1, Kd.R_set hnum hbox (by decide) 2 v1, Kd.R_set h1 hbox (by decide) 2 v1⟩
theorem T1.boxg {W2 W W1 : World} {o gn cn R st : Nat} {KV PV RV DV SV : Value} {B : Nat} {N : List Int} {L : List ByteArray} (h : T1 W2 W o gn cn R st KV PV RV DV SV B N L) (hg : W.grownBy W1 RV.ownBlock) : W1.heap[o]? = some (.cells #[KV, PV, RV, DV, SV] 26 (0, 0)) :=
  (hg.block o (blk_lt h.box) (fun e => by
    obtain ⟨cc, hc⟩ := Kd.R_typed h.rul o e.symm
    exact typed_ne h.box hc (by decide) rfl)).trans h.box
/-- While the productions are laid. -/
structure T2 (W3 W : World) (o : Nat) (KV PV RV DV SV : Value) (L : List S57) : Prop where
  fr : Fr (fun i => i = o) W3 W
  box : W.heap[o]? = some (.cells #[KV, PV, RV, DV, SV] 26 (0, 0))
  prd : k57.R 57 W W3.heap.size (fun _ => True) DV L
theorem T2.go {W3 W W1 : World} {o : Nat} {KV PV RV DV SV : Value} {L : List S57} (h : T2 W3 W o KV PV RV DV SV L) (hF : Fr (fun _ => False) W W1) : T2 W3 W1 o KV PV RV DV SV L :=
  ⟨h.fr.trans hF (fun _ _ hf => hf.elim), hF.blk h.box id, Kd.R_below h.prd hF.to_below⟩
theorem T2.app {W3 W W1 : World} {o : Nat} {KV PV RV DV SV v1 : Value} {L L1 : List S57} (h : T2 W3 W o KV PV RV DV SV L) (hlt : o < W3.heap.size) (h1 : k57.R 57 W1 W3.heap.size (fun _ => True) v1 L1) (hg : W.grownBy W1 DV.ownBlock) : T2 W3 (W1.setCell ⟨o, 3, none⟩ v1) o KV PV RV v1 SV L1 := by
  have hF : Fr (fun k => DV.ownBlock = some k) W W1 := ⟨hg.os, hg.tape, hg.output, hg.size, fun i hi hn => hg.block i hi (fun e => hn e.symm)⟩
  have hb : ∀ k, DV.ownBlock = some k → W3.heap.size ≤ k := fun k hk => Kd.R_base h.prd k hk
  have hbox := hF.blk h.box (fun e => by have := hb _ e; omega)
  refine ⟨(h.fr.trans hF (fun k hk e => by have := hb k e; omega)).set (g := o) (o := 3) _ (fun _ => rfl), blk_set (j := 3) hbox v1, Kd.R_set h1 hbox (by decide) 3 v1⟩
theorem T2.boxg {W3 W W1 : World} {o : Nat} {KV PV RV DV SV : Value} {L : List S57} (h : T2 W3 W o KV PV RV DV SV L) (hlt : o < W3.heap.size) (hg : W.grownBy W1 DV.ownBlock) : W1.heap[o]? = some (.cells #[KV, PV, RV, DV, SV] 26 (0, 0)) :=
  (hg.block o (blk_lt h.box) (fun e => by have := Kd.R_base h.prd o e.symm; omega)).trans h.box
/-- While a production's row is laid. -/
structure T3 (W6 W : World) (q : Nat) (a0 a2 a3 a4 : Int) (a5 : ByteArray) (QV KV : Value) (L : List Int) : Prop where
  fr : Fr (fun i => i = q) W6 W
  box : W.heap[q]? = some (.cells #[.int .i64 a0, QV, .int .i64 a2, .int .i64 a3, .int .i64 a4, .string a5, KV] 57 (0, 0))
  row : kI.R 3 W W6.heap.size (fun _ => True) QV L
theorem T3.go {W6 W W1 : World} {q : Nat} {a0 a2 a3 a4 : Int} {a5 : ByteArray} {QV KV : Value} {L : List Int} (h : T3 W6 W q a0 a2 a3 a4 a5 QV KV L) (hF : Fr (fun _ => False) W W1) : T3 W6 W1 q a0 a2 a3 a4 a5 QV KV L :=
  ⟨h.fr.trans hF (fun _ _ hf => hf.elim), hF.blk h.box id, Kd.R_below h.row hF.to_below⟩
theorem T3.app {W6 W W1 : World} {q : Nat} {a0 a2 a3 a4 : Int} {a5 : ByteArray} {QV KV v1 : Value} {L L1 : List Int} (h : T3 W6 W q a0 a2 a3 a4 a5 QV KV L) (hlt : q < W6.heap.size) (h1 : kI.R 3 W1 W6.heap.size (fun _ => True) v1 L1) (hg : W.grownBy W1 QV.ownBlock) : T3 W6 (W1.setCell ⟨q, 1, none⟩ v1) q a0 a2 a3 a4 a5 v1 KV L1 := by
  have hF : Fr (fun k => QV.ownBlock = some k) W W1 := ⟨hg.os, hg.tape, hg.output, hg.size, fun i hi hn => hg.block i hi (fun e => hn e.symm)⟩
  have hb : ∀ k, QV.ownBlock = some k → W6.heap.size ≤ k := fun k hk => Kd.R_base h.row k hk
  have hbox := hF.blk h.box (fun e => by have := hb _ e; omega)
  refine ⟨(h.fr.trans hF (fun k hk e => by have := hb k e; omega)).set (g := q) (o := 1) _ (fun _ => rfl), blk_set (j := 1) hbox v1, Kd.R_set h1 hbox (by decide) 1 v1⟩
theorem T3.boxg {W6 W W1 : World} {q : Nat} {a0 a2 a3 a4 : Int} {a5 : ByteArray} {QV KV : Value} {L : List Int} (h : T3 W6 W q a0 a2 a3 a4 a5 QV KV L) (hlt : q < W6.heap.size) (hg : W.grownBy W1 QV.ownBlock) : W1.heap[q]? = some (.cells #[.int .i64 a0, QV, .int .i64 a2, .int .i64 a3, .int .i64 a4, .string a5, KV] 57 (0, 0)) :=
  (hg.block q (blk_lt h.box) (fun e => by have := Kd.R_base h.row q e.symm; omega)).trans h.box
theorem R_rowT {α : Type} {d : Kd α} {e t : Nat} {W : World} {B q : Nat} {ok : Nat → Prop} {v : Value} {l : List α} {old : Array Value} (h : d.R e W B ok v l) (hq : W.heap[q]? = some (.cells old t (0, 0))) (ht : ∀ s, s ∈ e :: d.E → s ≠ t) (cs : Array Value) : d.R e (W.setRow q cs) B ok v l := by
  have h2 := Kd.R_types h hq ht
  exact Kd.R_mono (Kd.R_step h2 (fun k hk _ => setRow_other W q k cs hk.2)) (fun _ hk => hk.1)
abbrev z7 : Array Value := #[.int .i64 0, .slice none 0 0, .int .i64 0, .int .i64 0, .int .i64 0, .string ⟨#[]⟩, .slice none 0 0]
/-- Behind the making of a new production. -/
def QPost (Wk : World) (left lvl : Int) (a : S55) (s : Value) (W : World) : Prop := ∃ q CA cc, s = .pointer (some ⟨q, 0, none⟩) ∧ Fr (fun _ => False) Wk W ∧ Wk.heap.size ≤ q ∧ W.heap[q]? = some (.cells #[.int .i64 left, .slice none 0 0, .int .i64 lvl, .int .i64 a.f0, .int .i64 a.f1, .string a.f2, .slice CA a.f3.length cc] 57 (0, 0)) ∧
  k55.R 55 W Wk.heap.size (fun _ => True) (.slice CA a.f3.length cc) a.f3
theorem QPost.of {Wk W : World} {left lvl : Int} {a : S55} {q cc : Nat} {CA : Option Addr} (hF : Fr (fun _ => False) Wk W) (hlo : Wk.heap.size ≤ q) (hb : W.heap[q]? = some (.cells z7 57 (0, 0))) (hR : k55.R 55 W Wk.heap.size (fun _ => True) (.slice CA a.f3.length cc) a.f3) :
    QPost Wk left lvl a (.pointer (some ⟨q, 0, none⟩)) (W.setRow q #[.int .i64 left, .slice none 0 0, .int .i64 lvl, .int .i64 a.f0, .int .i64 a.f1, .string a.f2, .slice CA a.f3.length cc]) :=
  ⟨q, CA, cc, rfl, fr_row hF _ (fun h => by omega), hlo, setRow_heap _ _ _ _ _ _ hb, R_rowT hR hb (by decide) _⟩
theorem numL_bound (kp : Nat → Bool) (R k : Nat) (i : Int) : 0 ≤ rd (numL kp R k) i ∧ rd (numL kp R k) i ≤ R := by
  simp only [rd, numL, List.getD_eq_getElem?_getD, List.getElem?_map]
  by_cases h : i.toNat < R
  · rw [List.getElem?_range h]
    simp only [Option.map_some, Option.getD_some]
    split
    · have := numF_le kp i.toNat
      omega
    · omega
  · rw [List.getElem?_eq_none (by simp; omega)]
    simp
theorem mapT_succ {f : Int → Int} {l : List Int} {t : Nat} (h : t < l.length) : (l.take (t + 1)).map f = (l.take t).map f ++ [f (rd l (t : Int))] := by
  rw [List.take_add_one, List.map_append, List.getElem?_eq_getElem h]
  simp only [Option.toList_some, List.map_cons, List.map_nil, rd, Int.toNat_natCast, List.getD_eq_getElem?_getD, List.getElem?_eq_getElem h, Option.getD_some]
theorem numF_succ {kp : Nat → Bool} {k : Nat} (h : kp k = true) : numF kp (k + 1) = numF kp k + 1 := by simp [numF, List.range_succ, h]
theorem numF_same {kp : Nat → Bool} {k : Nat} (h : kp k = false) : numF kp (k + 1) = numF kp k := by simp [numF, List.range_succ, h]
end Go.Proofs.Ytdngobjcdajogaa.Gram
