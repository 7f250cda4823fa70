/-
The productions by which rules make their least rows, by the document: quoinref12.ranked and quoinref12.chosen, walked.
-/
import Derived.Test.YtdngobjcdajogaaT9UF
import Derived.Test.YtdngobjcdajogaaT9QT
namespace Go.Proofs.Ytdngobjcdajogaa.Gram
open Go.RowKit Go.Proofs.YtdngobjcdajogaaW.PrintWords Go.Proofs.YtdngobjcdajogaaW.PrintLast Go.Proofs.YtdngobjcdajogaaW.PrintMore Go.Proofs.Ytdngobjcdajogaa.Fr Go.Proofs.Ytdngobjcdajogaa.PGramFirsts Go.Proofs.Ytdngobjcdajogaa.TextSet
theorem rankB_drop {K : Nat} {T row : List Int} {i : Nat} (h : i < row.length) : rankB K T (row.drop i) = ((decide (rd row (i : Int) < K) || decide (0 ≤ rd T (rd row (i : Int) - K))) && rankB K T (row.drop (i + 1))) := by
  rw [drop_rd h]
  rfl
set_option maxHeartbeats 4000000 in
set_option maxRecDepth 100000 in
theorem ranked_calls (w : World) (G : Gr) (A0 A1 A2 A3 : Option Addr) (c0 c1 c2 c3 : Nat) (LA RA : Option Addr) (lc rc : Nat) (T row : List Int) (hK : G.kinds.length ≤ 1024) (hR : G.rules.length ≤ 2048) (hL : kI.C w LA T.length T) (hr : kI.C w RA row.length row) (hln : T.length = G.rules.length) (hrow : RowOk G.kinds.length G.rules.length row) (hl : row.length ≤ 4611686018427387904) :
    Calls Try.prog 75 #[.agg #[.slice A0 G.kinds.length c0, .slice A1 G.precs.length c1, .slice A2 G.rules.length c2, .slice A3 G.prods.length c3, .int .i64 G.start], .slice LA T.length lc, .slice RA row.length rc] w fun e w' =>
      e = .returned (.bool (rankB G.kinds.length T row)) ∧ Fr (fun _ => False) w w' := by
  have hu := Try.underlying26
  have HR := Aside0.mk hr
  have HL := Aside0.mk hL
  have HRO := Aside0.mk hrow
  have HLN := Aside0.mk hln
  have HW := Aside0.mk (show ChkW w (w.alloc (.cells #[.slice A0 G.kinds.length c0, .slice A1 G.precs.length c1, .slice A2 G.rules.length c2, .slice A3 G.prods.length c3, .int .i64 G.start] 26)) G A0 A1 A2 A3 c0 c1 c2 c3 from ⟨blk_new w _, (Fr.refl _ w).alloc _⟩)
  clear hL hr hrow hln
  go_enter Try.func75, Try.ntmps75
  go_upto_region 1 with fail
  generalize w.alloc (.cells #[.slice A0 G.kinds.length c0, .slice A1 G.precs.length c1, .slice A2 G.rules.length c2, .slice A3 G.prods.length c3, .int .i64 G.start] 26) = W0 at HW ⊢
  go_wp2_with (fail)
  go_loopw [7] (fun a W => ∃ (i : Nat), a = .int .i64 i ∧ i ≤ row.length ∧ Aside0 (ChkW w W G A0 A1 A2 A3 c0 c1 c2 c3) ∧ Aside0 (rankB G.kinds.length T row = rankB G.kinds.length T (row.drop i))) (fun a _ => row.length - (intOf a).toNat)
  case atStart => exact ⟨0, rfl, Nat.zero_le _, HW, ⟨by rw [List.drop_zero]⟩⟩
  case round =>
    clear HW
    obtain ⟨i, rfl, hi, HW, HS⟩ := hrel
    by_cases hlt : i < row.length
    · have HLT := Aside0.mk hlt
      obtain ⟨ax, rfl, hx⟩ := Kd.at_int (HW.out.fr.C (S := fun _ => False) (0 : Int) HR.out (fun _ _ _ => id)) (i : Int) (by omega) (by omega)
      simp only [Int.toNat_natCast] at hx
      obtain ⟨hx1, hx2⟩ := HRO.out i hlt
      have HSN := Aside0.mk (HS.out.trans (rankB_drop hlt))
      generalize rd row (i : Int) = x at hx hx1 hx2 HSN
      clear HS
      obtain ⟨e0, e1, e2, e3, e4⟩ := HW.out.cells
      by_cases hk : x < G.kinds.length
      · have HSK := Aside0.mk (show rankB G.kinds.length T row = rankB G.kinds.length T (row.drop (i + 1)) by rw [HSN.out, decide_eq_true hk]; rfl)
        have HWD := Aside0.mk (fun n => HW.out.go ((Fr.refl (fun _ => False) wr).drewN n))
        have hd : decide ((G.kinds.length : Int) ≤ x) = false := decide_eq_false (by omega)
        clear HSN
        go_wp2_with (fail)
        go_quiet (fail)
        go_wp2_with (fail)
        exact ⟨⟨i + 1, by go_num, HLT.out, ⟨HWD.out nq⟩, HSK⟩, by have := HLT.out; simp [intOf]; omega⟩
      · have HWD := Aside0.mk (fun n => HW.out.go ((Fr.refl (fun _ => False) wr).drewN n))
        have hk2 : (G.kinds.length : Int) ≤ x := by omega
        obtain ⟨al, rfl, hy⟩ := Kd.at_int (HW.out.fr.C (S := fun _ => False) (0 : Int) HL.out (fun _ _ _ => id)) (x - G.kinds.length) (by omega) (by rw [HLN.out]; omega)
        have hwr : IntKind.i64.wrap (x - (G.kinds.length : Int)) = x - G.kinds.length := by rw [i64_w]; simp only [wrap64]; omega
        have ha0 : 0 ≤ x - (G.kinds.length : Int) := by omega
        have ha1 : x - (G.kinds.length : Int) < T.length := by rw [HLN.out]; omega
        have HSK := Aside0.mk (show rankB G.kinds.length T row = (decide (0 ≤ rd T (x - G.kinds.length)) && rankB G.kinds.length T (row.drop (i + 1))) by rw [HSN.out, decide_eq_false hk]; rfl)
        have hys := (show (x - (G.kinds.length : Int)).toNat = x.toNat - G.kinds.length by omega)
        rw [hys] at hy
        clear HSN hys
        generalize rd T (x - (G.kinds.length : Int)) = z at hy HSK
        by_cases hz : z < 0
        · have HSM := Aside0.mk (show rankB G.kinds.length T row = false by rw [HSK.out, decide_eq_false (by omega)]; rfl)
          go_wp2_with (fail)
          go_quiet (fail)
          go_wp2_with (fail)
          have HFE := Aside0.mk (HWD.out nq).fr
          go_ret
          exact ⟨by rw [HSM.out]; rfl, HFE.out⟩
        · have HSM := Aside0.mk (show rankB G.kinds.length T row = rankB G.kinds.length T (row.drop (i + 1)) by rw [HSK.out, decide_eq_true (show 0 ≤ z by omega)]; rfl)
          have hz2 : decide (z < 0) = false := decide_eq_false hz
          go_wp2_with (fail)
          go_quiet (fail)
          go_wp2_with (fail)
          exact ⟨⟨i + 1, by go_num, HLT.out, ⟨HWD.out nq⟩, HSM⟩, by have := HLT.out; simp [intOf]; omega⟩
    · obtain rfl : i = row.length := by omega
      have HSE := Aside0.mk (show rankB G.kinds.length T row = true from by rw [HS.out, List.drop_eq_nil_of_le (Nat.le_refl _)]; rfl)
      have HFE := Aside0.mk HW.out.fr
      clear HS
      go_wp2_with (fail)
      go_ret
      exact ⟨by rw [HSE.out]; rfl, HFE.out⟩
def ChosenPost (w : World) (G : Gr) (L : List Int) (e : Ending) (w' : World) : Prop := ∃ v T, e = .returned v ∧ kI.R 3 w' (w.heap.size + 1) (fun _ => True) v T ∧ T.length = G.rules.length ∧ TakX G L T
theorem passT_len {G : Gr} {L T : List Int} : ∀ i, (passT G L T i).length = T.length
  | 0 => rfl
  | i + 1 => by
    unfold passT stepT
    split
    · rw [List.length_set, passT_len i]
    · exact passT_len i
set_option maxHeartbeats 8000000 in
set_option maxRecDepth 100000 in
theorem chosen_calls (w : World) (G : Gr) (A0 A1 A2 A3 LA : Option Addr) (c0 c1 c2 c3 lc : Nat) (h : GAt w G A0 A1 A2 A3 c0 c1 c2 c3) (hc : CheckOk G) (L : List Int) (hL : kI.C w LA L.length L) (hlc : L.length ≤ lc) (hLO : LeastOk G L) :
    Calls Try.prog 51 #[.agg #[.slice A0 G.kinds.length c0, .slice A1 G.precs.length c1, .slice A2 G.rules.length c2, .slice A3 G.prods.length c3, .int .i64 G.start], .slice LA G.rules.length lc] w fun e w' =>
      ChosenPost w G L e w' ∧ Fr (fun _ => False) w w' := by
  have hu := Try.underlying26
  have hu2 := Try.underlying57
  have hm3 := Kd.C_max h.prods
  have hR1 := (base_true hc.base).2.1
  have hR2 := (base_true hc.base).2.2.1
  have hQ2 := (base_true hc.base).2.2.2.2.2
  have hK2 := hc.kinds.max
  have HG := Aside0.mk h
  have HC := Aside0.mk hc
  have HL := Aside0.mk hL
  have HLC := Aside0.mk hlc
  have HLO := Aside0.mk hLO
  have HW := Aside0.mk (show ChkW w (w.alloc (.cells #[.slice A0 G.kinds.length c0, .slice A1 G.precs.length c1, .slice A2 G.rules.length c2, .slice A3 G.prods.length c3, .int .i64 G.start] 26)) G A0 A1 A2 A3 c0 c1 c2 c3 from ⟨blk_new w _, (Fr.refl _ w).alloc _⟩)
  have hws : (w.alloc (.cells #[.slice A0 G.kinds.length c0, .slice A1 G.precs.length c1, .slice A2 G.rules.length c2, .slice A3 G.prods.length c3, .int .i64 G.start] 26)).heap.size = w.heap.size + 1 := by simp only [World.size_alloc]
  clear h hc hL hlc hLO
  go_enter Try.func51, Try.ntmps51
  go_upto_region 1 with fail
  generalize w.alloc (.cells #[.slice A0 G.kinds.length c0, .slice A1 G.precs.length c1, .slice A2 G.rules.length c2, .slice A3 G.prods.length c3, .int .i64 G.start] 26) = W0 at HW hws ⊢
  obtain ⟨e0, e1, e2, e3, e4⟩ := HW.out.cells
  go_upto_region 2 with (at_make; refine Kd.R_make kI (w0 := W0) W0.heap.size 3 rfl (N := 14) rfl 27 _ _ rfl (G.rules.length : Int) rfl rfl Try.underlying27 (.int .i64 0) 8 info3 rfl (by decide) (by omega) 0 (ok := fun _ => True) (okp := fun _ => True) rfl (fun _ hk => hk) trivial (by omega) (by omega) (Below.refl _ _) (Nat.le_refl _) ?_; intro v1 W1 h1 hB1 hg1 hb1; have HX := Aside0.mk (show NW w W1 G A0 A1 A2 A3 c0 c1 c2 c3 v1 (List.replicate G.rules.length 0) from ⟨HW.out.go (Fr.of_below hB1), by simpa [hws] using h1⟩); clear h1 hB1 hg1)
  obtain ⟨gb, cap, rfl⟩ := ints_form HX.out.row (by simp; exact hR1)
  simp only [List.length_replicate] at HX hb1 ⊢
  clear HW e0 e1 e2 e3 e4
  go_wp2_with (fail)
  go_loopw [6] (fun a W => ∃ (i : Nat) (T : List Int), a = .int .i64 i ∧ i ≤ G.rules.length ∧ Aside0 (NW w W G A0 A1 A2 A3 c0 c1 c2 c3 (.slice (some ⟨gb, 0, none⟩) G.rules.length cap) T) ∧ Aside0 (T.length = G.rules.length ∧ ∀ j : Nat, j < i → rd T (j : Int) = -1)) (fun a _ => G.rules.length - (intOf a).toNat)
  case atStart => exact ⟨0, _, rfl, Nat.zero_le _, HX, ⟨by simp, fun j hj => absurd hj (by omega)⟩⟩
  case round =>
    clear HX
    obtain ⟨i, T, rfl, hi, HX, HT⟩ := hrel
    by_cases hlt : i < G.rules.length
    · have HLT := Aside0.mk hlt
      obtain ⟨hx1, hx2⟩ := HX.out.at HT.out.1 (i := (i : Int)) (by omega) (by omega)
      have HX2 := Aside0.mk (HX.out.put HT.out.1 (i : Int) (-1))
      simp only [Int.toNat_natCast] at hx1 hx2 HX2
      go_wp2_with (fail)
      exact ⟨⟨i + 1, _, by go_num, HLT.out, HX2, ⟨by simp [HT.out.1], fun j hj => by
        have := HT.out.1
        have := HLT.out
        rw [rdI_set (by omega)]
        split
        · rfl
        · exact HT.out.2 j (by omega)⟩⟩, by have := HLT.out; simp [intOf]; omega⟩
    · obtain rfl : i = G.rules.length := by omega
      have HE := Aside0.mk (ends HT.out.1 HT.out.2)
      have HX1 := Aside0.mk (show NW w wr G A0 A1 A2 A3 c0 c1 c2 c3 (.slice (some ⟨gb, 0, none⟩) G.rules.length cap) (List.replicate G.rules.length (-1)) by rw [← HE.out]; exact HX.out)
      have hgz := negs_start G.rules.length
      clear HX HT HE
      go_wp2_with (fail)
      go_loopg [7] (G.rules.length + 1) (fun k a W => ∃ (sm : Bool) (T : List Int), a = .bool sm ∧ negs T + (if sm = true then 1 else 0) ≤ k ∧ Aside0 (NW w W G A0 A1 A2 A3 c0 c1 c2 c3 (.slice (some ⟨gb, 0, none⟩) G.rules.length cap) T) ∧ Aside0 (T.length = G.rules.length) ∧ Aside0 ((∃ n, iterT G L n = T) ∧ (sm = false → passT G L T G.prods.length = T)))
      case atStart => exact ⟨true, _, rfl, by rw [hgz]; simp, HX1, ⟨by simp⟩, ⟨⟨⟨0, rfl⟩, fun h => absurd h (by decide)⟩⟩⟩
      case round =>
        clear HX1 hgz
        obtain ⟨sm, T, rfl, hk, HX, HTL, HIT⟩ := hrel
        cases sm with
        | false =>
          have HE := Aside0.mk (show TakX G L T from ⟨HIT.out.1, HIT.out.2 rfl⟩)
          go_wp2_with (fail)
          go_ret
          exact ⟨⟨_, _, rfl, HX.out.row, HTL.out, HE.out⟩, HX.out.chk.fr⟩
        | true =>
          simp only [if_pos] at hk
          have hwr0 : w.heap.size + 1 ≤ wr.heap.size := blk_lt HX.out.chk.box
          have hgbw : gb < wr.heap.size := Kd.R_lt HX.out.row gb rfl
          have HC0 := Aside0.mk (show kI.C (wr.alloc (.cells #[] 3)) (some ⟨gb, 0, none⟩) T.length T from Kd.C_below (by have := (Kd.R_reads' HX.out.row).2.2; exact this) ((Fr.refl (fun _ => False) wr).alloc (.cells #[] 3)).to_below)
          have HL0 := Aside0.mk (show kI.R 3 (wr.alloc (.cells #[] 3)) wr.heap.size (fun _ => True) (.slice (some ⟨wr.heap.size, 0, none⟩) 0 0) [] from Kd.R_of_own (own_lit_of wr wr.heap.size 3 [] (Nat.le_refl _) (by simp)) (fun _ _ => trivial))
          have HF0 := Aside0.mk ((Fr.refl (fun _ => False) wr).alloc (.cells #[] 3))
          have hs0 : wr.heap.size ≤ (wr.alloc (.cells #[] 3)).heap.size := by simp only [World.size_alloc]; omega
          go_upto_region 10 with (first | ((with_reducible refine gate_builtin (b := .append) (xs := #[.tmp 25, .tmp 26]) rfl ?_); at_builtin; refine Kd.R_append_rows kI (w0 := wr.alloc (.cells #[] 3)) wr.heap.size rfl (.tmp 25) (.tmp 26) 27 3 (.int .i64 0) 8 rfl Try.underlying27 info3 rfl (by decide) (by omega) _ [] T _ G.rules.length _ (fun _ => True) (fun _ => False) rfl rfl HL0.out (by rw [← HTL.out]; exact HC0.out) (fun _ _ h => h) (fun _ h => h.elim) (fun _ _ => trivial) (Below.refl _ _) hs0 (by simp only [List.length_nil]; have := HTL.out; omega) ?_; intro v1 W1 h1 hb1 hg1 hat1; have H1 := Aside0.mk (show kI.R 3 W1 wr.heap.size (fun _ => True) v1 T from h1); have HF1 := Aside0.mk (show Fr (fun _ => False) wr W1 from HF0.out.trans (T := fun k => wr.heap.size ≤ k) ⟨hg1.os, hg1.tape, hg1.output, hg1.size, fun i hi hn => hg1.block i hi (fun e => hn (Kd.R_base HL0.out i e.symm))⟩ (fun k hk e => by omega)); clear h1 hb1 hg1 hat1))
          obtain ⟨ga, ca, rfl⟩ := ints_form H1.out (by rw [HTL.out]; exact hR1)
          have hga : wr.heap.size ≤ ga := Kd.R_base H1.out ga rfl
          have hne : ga ≠ gb := by omega
          have HA := Aside0.mk (show kI.R 3 W1 (w.heap.size + 1) (fun k => k = ga) (.slice (some ⟨ga, 0, none⟩) T.length ca) T from Kd.R_mono (Kd.R_tight rfl (Kd.R_lower H1.out hwr0)) (fun k hk => by injection hk))
          have HX3 := Aside0.mk (HX.out.go HF1.out)
          rw [HTL.out] at HA ⊢
          clear H1 HF1 HX HC0 HL0 HF0 hs0 hwr0 hgbw hga
          go_wp2_with (fail)
          go_loopw [9, 7] (fun a b W => ∃ (i : Nat) (sm : Bool) (T' : List Int), a = .int .i64 i ∧ b = .bool sm ∧ i ≤ G.prods.length ∧ negs T' + (if sm = true then 1 else 0) ≤ negs T ∧ Aside0 (NW w W G A0 A1 A2 A3 c0 c1 c2 c3 (.slice (some ⟨gb, 0, none⟩) G.rules.length cap) T') ∧ Aside0 (kI.R 3 W (w.heap.size + 1) (fun k => k = ga) (.slice (some ⟨ga, 0, none⟩) G.rules.length ca) T) ∧ Aside0 (T' = passT G L T i) ∧ Aside0 (sm = false → T' = T)) (fun a _ _ => G.prods.length - (intOf a).toNat)
          case atStart => exact ⟨0, false, T, rfl, rfl, Nat.zero_le _, by simp, HX3, HA, ⟨rfl⟩, ⟨fun _ => rfl⟩⟩
          case round =>
            clear HX3 HA
            obtain ⟨i, sm, T', rfl, rfl, hi, hf, HX, HA, HPX, HSA⟩ := hrel
            obtain ⟨e0, e1, e2, e3, e4⟩ := HX.out.chk.cells
            by_cases hlt : i < G.prods.length
            · have HLT := Aside0.mk hlt
              obtain ⟨ad, B1, d1, B6, d6, rfl, x0, x1, x2, x3, x4, x5, x6, hl1, hC1, hl6, hC6⟩ := at_T57 HG.out.prods (i : Int) (by omega) (by omega)
              simp only [Int.toNat_natCast] at x0 x1 x2 x3 x4 x5 x6
              have y0 := HX.out.chk.fr.cell x0 id
              have y1 := HX.out.chk.fr.cell x1 id
              have y2 := HX.out.chk.fr.cell x2 id
              have y3 := HX.out.chk.fr.cell x3 id
              have y4 := HX.out.chk.fr.cell x4 id
              have y5 := HX.out.chk.fr.cell x5 id
              have y6 := HX.out.chk.fr.cell x6 id
              have HC1 := Aside0.mk hC1
              have HL1 := Aside0.mk hl1
              have HPI := Aside0.mk (HC.out.prodsOk i hlt)
              clear x0 x1 x2 x3 x4 x5 x6 hC1 hC6 hl6 hl1
              go_upto_region 14 with fail
              have HXA := Aside0.mk (HX.out.go ((Fr.refl (fun _ => False) wr).alloc (.cells #[.int .i64 (rd_T57 G.prods (i : Int)).f0, .slice B1 (rd_T57 G.prods (i : Int)).f1.length d1, .int .i64 (rd_T57 G.prods (i : Int)).f2, .int .i64 (rd_T57 G.prods (i : Int)).f3.f0, .int .i64 (rd_T57 G.prods (i : Int)).f3.f1, .string (rd_T57 G.prods (i : Int)).f3.f2, .slice B6 (rd_T57 G.prods (i : Int)).f3.f3.length d6] 57)))
              have HAA := Aside0.mk (Kd.R_alloc HA.out (.cells #[.int .i64 (rd_T57 G.prods (i : Int)).f0, .slice B1 (rd_T57 G.prods (i : Int)).f1.length d1, .int .i64 (rd_T57 G.prods (i : Int)).f2, .int .i64 (rd_T57 G.prods (i : Int)).f3.f0, .int .i64 (rd_T57 G.prods (i : Int)).f3.f1, .string (rd_T57 G.prods (i : Int)).f3.f2, .slice B6 (rd_T57 G.prods (i : Int)).f3.f3.length d6] 57))
              have HPB := Aside0.mk (blk_new wr (.cells #[.int .i64 (rd_T57 G.prods (i : Int)).f0, .slice B1 (rd_T57 G.prods (i : Int)).f1.length d1, .int .i64 (rd_T57 G.prods (i : Int)).f2, .int .i64 (rd_T57 G.prods (i : Int)).f3.f0, .int .i64 (rd_T57 G.prods (i : Int)).f3.f1, .string (rd_T57 G.prods (i : Int)).f3.f2, .slice B6 (rd_T57 G.prods (i : Int)).f3.f3.length d6] 57))
              have hgq : gb < wr.heap.size := ((Kd.R_bound HX.out.row).1 gb rfl).2.2.1
              generalize wr.alloc (.cells #[.int .i64 (rd_T57 G.prods (i : Int)).f0, .slice B1 (rd_T57 G.prods (i : Int)).f1.length d1, .int .i64 (rd_T57 G.prods (i : Int)).f2, .int .i64 (rd_T57 G.prods (i : Int)).f3.f0, .int .i64 (rd_T57 G.prods (i : Int)).f3.f1, .string (rd_T57 G.prods (i : Int)).f3.f2, .slice B6 (rd_T57 G.prods (i : Int)).f3.f3.length d6] 57) = W5 at HXA HPB HAA ⊢
              generalize wr.heap.size = q at hgq HPB ⊢
              clear y0 y1 y2 y3 y4 y5 y6 HX HA e0 e1 e2 e3 e4
              have hro := HPI.out.2.2.2
              have hrl := HPI.out.2.2.1
              have h00 := HPI.out.1
              have h01 := HPI.out.2.1
              rw [show rd_T57 G.prods i = rd_T57 G.prods (i : Int) from rfl] at hro hrl h00 h01
              have HX1 := Aside0.mk (show 0 ≤ rd T' (rd_T57 G.prods (i : Int)).f0 → T' = passT G L T (i + 1) from (passX HPX.out).on)
              have HX2 := Aside0.mk (show sizeF G.kinds.length L 0 (rd_T57 G.prods (i : Int)).f1 ≠ rd L (rd_T57 G.prods (i : Int)).f0 → T' = passT G L T (i + 1) from (passX HPX.out).size)
              have HX3 := Aside0.mk (show rankB G.kinds.length T (rd_T57 G.prods (i : Int)).f1 = false → T' = passT G L T (i + 1) from fun h => (passX HPX.out).no (fun h2 => by have h3 := rankB_iff.2 h2; rw [show rd_T57 G.prods i = rd_T57 G.prods (i : Int) from rfl] at h3; rw [h] at h3; cases h3))
              have HX4 := Aside0.mk (show rd T' (rd_T57 G.prods (i : Int)).f0 < 0 → sizeF G.kinds.length L 0 (rd_T57 G.prods (i : Int)).f1 = rd L (rd_T57 G.prods (i : Int)).f0 → rankB G.kinds.length T (rd_T57 G.prods (i : Int)).f1 = true → T'.set (rd_T57 G.prods (i : Int)).f0.toNat i = passT G L T (i + 1) from fun h1 h2 h3 => (passX HPX.out).yes h1 h2 (rankB_iff.1 h3))
              have HRO := Aside0.mk hro
              have HZB := Aside0.mk (show T'.length = G.rules.length by rw [HPX.out, passT_len]; exact HTL.out)
              have HNG := Aside0.mk (fun (h : rd T' (rd_T57 G.prods (i : Int)).f0 < 0) => negs_set T' (rd_T57 G.prods (i : Int)).f0.toNat i (by rw [HZB.out]; omega) (by rw [Int.toNat_of_nonneg h00]; exact h) (by omega))
              clear hro HPI HPX
              change 0 ≤ (rd_T57 G.prods (i : Int)).f0 at h00
              change (rd_T57 G.prods (i : Int)).f0 < _ at h01
              generalize rd_T57 G.prods (i : Int) = pr at HPB HRO hrl h00 h01 HC1 HL1 HX1 HX2 HX3 HX4 HNG ⊢
              have z0 := (blk_cell HPB.out 0).trans (show _ = some (Value.int .i64 pr.f0) from rfl)
              have z1 := (blk_cell HPB.out 1).trans (show _ = some (Value.slice B1 pr.f1.length d1) from rfl)
              obtain ⟨hxo, hfz⟩ := HXA.out.at HZB.out h00 h01
              obtain ⟨adl, eadl, hxl0⟩ := Kd.at_int HL.out pr.f0 h00 (by rw [HLO.out.len]; exact h01)
              subst eadl
              have hxl := HXA.out.chk.fr.cell hxl0 id
              clear hxl0
              have HRK := Aside0.mk (fun W (hF : Fr (fun _ => False) W5 W) => ranked_calls W G A0 A1 A2 (some ad) c0 c1 c2 c3 (some ⟨ga, 0, none⟩) B1 ca d1 T pr.f1 hK2 hR2 (Kd.C_below (by have := (Kd.R_reads' HAA.out).2.2; exact this) hF.to_below) (Kd.C_below HC1.out (HXA.out.chk.fr.trans hF (fun _ _ h => h)).to_below) HTL.out HRO.out (by omega))
              rw [HTL.out] at HRK
              have HSC := Aside0.mk (fun W (hF : Fr (fun _ => False) W5 W) => length_calls W G A0 A1 A2 (some ad) c0 c1 c2 c3 (HG.out.go (HXA.out.chk.fr.trans hF (fun _ _ h => h))) (some adl) B1 lc d1 L pr.f1 hK2 hR2 (Kd.C_below HL.out (HXA.out.chk.fr.trans hF (fun _ _ h => h)).to_below) HLC.out (Kd.C_below HC1.out (HXA.out.chk.fr.trans hF (fun _ _ h => h)).to_below) HL1.out HLO.out.len HLO.out.bound HRO.out (by omega))
              rw [HLO.out.len] at HSC
              generalize htv : rd T' pr.f0 = tv at hxo HX1 HX4 HNG
              generalize hlz : rd L pr.f0 = lz at hxl HX2 HX4
              generalize hsz : sizeF G.kinds.length L 0 pr.f1 = sz at HSC HX2 HX4
              generalize hrb : rankB G.kinds.length T pr.f1 = rb at HRK HX3 HX4
              clear htv hlz hsz hrb
              by_cases hon : 0 ≤ tv
              · have HPX2 := Aside0.mk (HX1.out hon)
                have HXE := Aside0.mk (HXA.out.go ((Fr.refl (fun _ => False) W5).drew))
                have HAE := Aside0.mk (Kd.R_below HAA.out ((Fr.refl (fun _ => False) W5).drew).to_below)
                have hdd : decide (tv < 0) = false := decide_eq_false (by omega)
                clear HX1 HX2 HX3 HX4 HRK HSC HNG HXA HAA
                refine wp_region_held_drew (S := fun w' => w'.cell? ⟨q, 0, none⟩ = some (.int .i64 pr.f0) ∧ w'.cell? ⟨gb, pr.f0.toNat, none⟩ = some (.int .i64 tv)) (by kernel_rfl) ⟨by simp only [World.cell?_drew]; exact z0, by simp only [World.cell?_drew]; exact hxo⟩ (fun hHeld => ?_)
                refine wpAnyH_take (i := 0) (oi := ?oa0) (v := ?va0) ?hoa0 (by kernel_rfl) (by kernel_rfl) (by kernel_rfl) ?hqa0 ?hya0 (by assumption) ?resta0
                case hoa0 => (simp only [List.getElem?_toArray, List.getElem?_cons_zero]; rfl)
                case hqa0 => exact fun _ _ _ h => h
                case hya0 => (refine Or.inl ⟨by rfl, ?_⟩; intro w0 hSw; (try dsimp only at hSw); go_simp; try with_reducible rfl)
                try simp only [Act.put, List.setIfInBounds_toArray, List.set_cons_zero, List.set_cons_succ]
                refine wpAnyH_take (i := 1) (oi := ?oa1) (v := ?va1) ?hoa1 (by kernel_rfl) (by kernel_rfl) (by kernel_rfl) ?hqa1 ?hya1 (by assumption) ?resta1
                case hoa1 => (simp only [List.getElem?_toArray, List.getElem?_cons_succ, List.getElem?_cons_zero]; rfl)
                case hqa1 => exact fun _ _ _ h => h
                case hya1 => (refine Or.inl ⟨by rfl, ?_⟩; intro w0 hSw; (try dsimp only at hSw); go_simp; try with_reducible rfl)
                try simp only [Act.put, List.setIfInBounds_toArray, List.set_cons_zero, List.set_cons_succ]
                refine wpAnyH_take (i := 2) (oi := ?oa2) (v := ?va2) ?hoa2 (by kernel_rfl) (by kernel_rfl) (by kernel_rfl) ?hqa2 ?hya2 (by assumption) ?resta2
                case hoa2 => (simp only [List.getElem?_toArray, List.getElem?_cons_succ, List.getElem?_cons_zero]; rfl)
                case hqa2 => exact fun _ _ _ h => h
                case hya2 => (refine Or.inl ⟨by rfl, ?_⟩; intro w0 hSw; (try dsimp only at hSw); go_simp; try with_reducible rfl)
                try simp only [Act.put, List.setIfInBounds_toArray, List.set_cons_zero, List.set_cons_succ]
                refine wpAnyH_take (i := 3) (oi := ?oa3) (v := ?va3) ?hoa3 (by kernel_rfl) (by kernel_rfl) (by kernel_rfl) ?hqa3 ?hya3 (by assumption) ?resta3
                case hoa3 => (simp only [List.getElem?_toArray, List.getElem?_cons_succ, List.getElem?_cons_zero]; rfl)
                case hqa3 => exact fun _ _ _ h => h
                case hya3 => (refine Or.inl ⟨by rfl, ?_⟩; intro w0 hSw; (try dsimp only at hSw); go_simp; try with_reducible rfl)
                try simp only [Act.put, List.setIfInBounds_toArray, List.set_cons_zero, List.set_cons_succ]
                refine wpAnyH_take (i := 4) (oi := ?oa4) (v := ?va4) ?hoa4 (by kernel_rfl) (by kernel_rfl) (by kernel_rfl) ?hqa4 ?hya4 (by assumption) ?resta4
                case hoa4 => (simp only [List.getElem?_toArray, List.getElem?_cons_succ, List.getElem?_cons_zero]; rfl)
                case hqa4 => exact fun _ _ _ h => h
                case hya4 => (refine Or.inl ⟨by rfl, ?_⟩; intro w0 hSw; (try dsimp only at hSw); go_simp; try with_reducible rfl)
                try simp only [Act.put, List.setIfInBounds_toArray, List.set_cons_zero, List.set_cons_succ]
                refine wpAnyH_take (i := 5) (oi := ?oa5) (v := .bool false) ?hoa5 (by kernel_rfl) (by kernel_rfl) (by kernel_rfl) ?hqa5 ?hya5 (by assumption) ?resta5
                case hoa5 => (simp only [List.getElem?_toArray, List.getElem?_cons_succ, List.getElem?_cons_zero]; rfl)
                case hqa5 => exact fun _ _ _ h => h
                case hya5 => (refine Or.inl ⟨by rfl, ?_⟩; intro w0 hSw; (try dsimp only at hSw); go_simp; try with_reducible rfl)
                try simp only [Act.put, List.setIfInBounds_toArray, List.set_cons_zero, List.set_cons_succ]
                refine wpAnyH_take (i := 6) (oi := ?oa6) (v := ?va6) ?hoa6 (by kernel_rfl) (by kernel_rfl) (by kernel_rfl) ?hqa6 ?hya6 (by assumption) ?resta6
                case hoa6 => (simp only [List.getElem?_toArray, List.getElem?_cons_succ, List.getElem?_cons_zero]; rfl)
                case hqa6 => exact fun _ _ _ h => h
                case hya6 => (refine Or.inl ⟨by rfl, ?_⟩; intro w0 hSw; (try dsimp only at hSw); go_simp; try with_reducible rfl)
                try simp only [Act.put, List.setIfInBounds_toArray, List.set_cons_zero, List.set_cons_succ]
                refine wpAnyH_take (i := 7) (oi := ?oa7) (v := undef) ?hoa7 (by kernel_rfl) (by kernel_rfl) (by kernel_rfl) ?hqa7 ?hya7 (by assumption) ?resta7
                case hoa7 => (simp only [List.getElem?_toArray, List.getElem?_cons_succ, List.getElem?_cons_zero]; rfl)
                case hqa7 => exact fun _ _ _ h => h
                case hya7 => exact Or.inr ⟨by rfl, rfl⟩
                try simp only [Act.put, List.setIfInBounds_toArray, List.set_cons_zero, List.set_cons_succ]
                refine wpAnyH_take (i := 8) (oi := ?oa8) (v := undef) ?hoa8 (by kernel_rfl) (by kernel_rfl) (by kernel_rfl) ?hqa8 ?hya8 (by assumption) ?resta8
                case hoa8 => (simp only [List.getElem?_toArray, List.getElem?_cons_succ, List.getElem?_cons_zero]; rfl)
                case hqa8 => exact fun _ _ _ h => h
                case hya8 => exact Or.inr ⟨by rfl, rfl⟩
                try simp only [Act.put, List.setIfInBounds_toArray, List.set_cons_zero, List.set_cons_succ]
                refine wpAnyH_take (i := 9) (oi := ?oa9) (v := undef) ?hoa9 (by kernel_rfl) (by kernel_rfl) (by kernel_rfl) ?hqa9 ?hya9 (by assumption) ?resta9
                case hoa9 => (simp only [List.getElem?_toArray, List.getElem?_cons_succ, List.getElem?_cons_zero]; rfl)
                case hqa9 => exact fun _ _ _ h => h
                case hya9 => exact Or.inr ⟨by rfl, rfl⟩
                try simp only [Act.put, List.setIfInBounds_toArray, List.set_cons_zero, List.set_cons_succ]
                refine wpAnyH_take (i := 10) (oi := ?oa10) (v := undef) ?hoa10 (by kernel_rfl) (by kernel_rfl) (by kernel_rfl) ?hqa10 ?hya10 (by assumption) ?resta10
                case hoa10 => (simp only [List.getElem?_toArray, List.getElem?_cons_succ, List.getElem?_cons_zero]; rfl)
                case hqa10 => exact fun _ _ _ h => h
                case hya10 => exact Or.inr ⟨by rfl, rfl⟩
                try simp only [Act.put, List.setIfInBounds_toArray, List.set_cons_zero, List.set_cons_succ]
                refine wpAnyH_ready (rs := [11]) (by kernel_rfl) (by simp) ?_
                refine AllReadyH.cons (o := ?oa11) ?hoa11 ?hsa11 AllReadyH.nil
                case hoa11 => (simp only [List.getElem?_toArray, List.getElem?_cons_succ, List.getElem?_cons_zero]; rfl)
                intro K hK
                go_simp
                refine hK.out _ _ (by assumption) (fun hHeld => ?_)
                clear hK K
                try simp only [Act.put, List.setIfInBounds_toArray, List.set_cons_zero, List.set_cons_succ]
                refine wpAnyH_take (i := 12) (oi := ?oa12) (v := ?va12) ?hoa12 (by kernel_rfl) (by kernel_rfl) (by kernel_rfl) ?hqa12 ?hya12 (by assumption) ?resta12
                case hoa12 => (simp only [List.getElem?_toArray, List.getElem?_cons_succ, List.getElem?_cons_zero]; rfl)
                case hqa12 => exact fun _ _ _ h => h
                case hya12 => (refine Or.inl ⟨by rfl, ?_⟩; intro w0 hSw; (try dsimp only at hSw); go_simp; try with_reducible rfl)
                try simp only [Act.put, List.setIfInBounds_toArray, List.set_cons_zero, List.set_cons_succ]
                refine wpAnyH_take (i := 13) (oi := ?oa13) (v := ?va13) ?hoa13 (by kernel_rfl) (by kernel_rfl) (by kernel_rfl) ?hqa13 ?hya13 (by assumption) ?resta13
                case hoa13 => (simp only [List.getElem?_toArray, List.getElem?_cons_succ, List.getElem?_cons_zero]; rfl)
                case hqa13 => exact fun _ _ _ h => h
                case hya13 => (refine Or.inl ⟨by rfl, ?_⟩; intro w0 hSw; (try dsimp only at hSw); go_simp; try with_reducible rfl)
                try simp only [Act.put, List.setIfInBounds_toArray, List.set_cons_zero, List.set_cons_succ]
                refine wpAnyH_take (i := 14) (oi := ?oa14) (v := undef) ?hoa14 (by kernel_rfl) (by kernel_rfl) (by kernel_rfl) ?hqa14 ?hya14 (by assumption) ?resta14
                case hoa14 => (simp only [List.getElem?_toArray, List.getElem?_cons_succ, List.getElem?_cons_zero]; rfl)
                case hqa14 => exact fun _ _ _ h => h
                case hya14 => exact Or.inr ⟨by rfl, rfl⟩
                try simp only [Act.put, List.setIfInBounds_toArray, List.set_cons_zero, List.set_cons_succ]
                refine wpAnyH_take (i := 15) (oi := ?oa15) (v := undef) ?hoa15 (by kernel_rfl) (by kernel_rfl) (by kernel_rfl) ?hqa15 ?hya15 (by assumption) ?resta15
                case hoa15 => (simp only [List.getElem?_toArray, List.getElem?_cons_succ, List.getElem?_cons_zero]; rfl)
                case hqa15 => exact fun _ _ _ h => h
                case hya15 => exact Or.inr ⟨by rfl, rfl⟩
                try simp only [Act.put, List.setIfInBounds_toArray, List.set_cons_zero, List.set_cons_succ]
                refine wpAnyH_take (i := 16) (oi := ?oa16) (v := undef) ?hoa16 (by kernel_rfl) (by kernel_rfl) (by kernel_rfl) ?hqa16 ?hya16 (by assumption) ?resta16
                case hoa16 => (simp only [List.getElem?_toArray, List.getElem?_cons_succ, List.getElem?_cons_zero]; rfl)
                case hqa16 => exact fun _ _ _ h => h
                case hya16 => exact Or.inr ⟨by rfl, rfl⟩
                try simp only [Act.put, List.setIfInBounds_toArray, List.set_cons_zero, List.set_cons_succ]
                refine wpAnyH_take (i := 17) (oi := ?oa17) (v := undef) ?hoa17 (by kernel_rfl) (by kernel_rfl) (by kernel_rfl) ?hqa17 ?hya17 (by assumption) ?resta17
                case hoa17 => (simp only [List.getElem?_toArray, List.getElem?_cons_succ, List.getElem?_cons_zero]; rfl)
                case hqa17 => exact fun _ _ _ h => h
                case hya17 => exact Or.inr ⟨by rfl, rfl⟩
                try simp only [Act.put, List.setIfInBounds_toArray, List.set_cons_zero, List.set_cons_succ]
                refine wpAnyH_take (i := 19) (oi := ?oa19) (v := undef) ?hoa19 (by kernel_rfl) (by kernel_rfl) (by kernel_rfl) ?hqa19 ?hya19 (by assumption) ?resta19
                case hoa19 => (simp only [List.getElem?_toArray, List.getElem?_cons_succ, List.getElem?_cons_zero]; rfl)
                case hqa19 => exact fun _ _ _ h => h
                case hya19 => exact Or.inr ⟨by rfl, rfl⟩
                try simp only [Act.put, List.setIfInBounds_toArray, List.set_cons_zero, List.set_cons_succ]
                refine wpAnyH_take (i := 20) (oi := ?oa20) (v := undef) ?hoa20 (by kernel_rfl) (by kernel_rfl) (by kernel_rfl) ?hqa20 ?hya20 (by assumption) ?resta20
                case hoa20 => (simp only [List.getElem?_toArray, List.getElem?_cons_succ, List.getElem?_cons_zero]; rfl)
                case hqa20 => exact fun _ _ _ h => h
                case hya20 => exact Or.inr ⟨by rfl, rfl⟩
                try simp only [Act.put, List.setIfInBounds_toArray, List.set_cons_zero, List.set_cons_succ]
                refine wpAnyH_take (i := 21) (oi := ?oa21) (v := undef) ?hoa21 (by kernel_rfl) (by kernel_rfl) (by kernel_rfl) ?hqa21 ?hya21 (by assumption) ?resta21
                case hoa21 => (simp only [List.getElem?_toArray, List.getElem?_cons_succ, List.getElem?_cons_zero]; rfl)
                case hqa21 => exact fun _ _ _ h => h
                case hya21 => exact Or.inr ⟨by rfl, rfl⟩
                try simp only [Act.put, List.setIfInBounds_toArray, List.set_cons_zero, List.set_cons_succ]
                refine wpAnyH_take (i := 22) (oi := ?oa22) (v := undef) ?hoa22 (by kernel_rfl) (by kernel_rfl) (by kernel_rfl) ?hqa22 ?hya22 (by assumption) ?resta22
                case hoa22 => (simp only [List.getElem?_toArray, List.getElem?_cons_succ, List.getElem?_cons_zero]; rfl)
                case hqa22 => exact fun _ _ _ h => h
                case hya22 => exact Or.inr ⟨by rfl, rfl⟩
                try simp only [Act.put, List.setIfInBounds_toArray, List.set_cons_zero, List.set_cons_succ]
                refine wpAnyH_take (i := 23) (oi := ?oa23) (v := undef) ?hoa23 (by kernel_rfl) (by kernel_rfl) (by kernel_rfl) ?hqa23 ?hya23 (by assumption) ?resta23
                case hoa23 => (simp only [List.getElem?_toArray, List.getElem?_cons_succ, List.getElem?_cons_zero]; rfl)
                case hqa23 => exact fun _ _ _ h => h
                case hya23 => exact Or.inr ⟨by rfl, rfl⟩
                try simp only [Act.put, List.setIfInBounds_toArray, List.set_cons_zero, List.set_cons_succ]
                refine wpAnyH_ready (rs := [18]) (by kernel_rfl) (by simp) ?_
                refine AllReadyH.cons (o := ?oa18) ?hoa18 ?hsa18 AllReadyH.nil
                case hoa18 => (simp only [List.getElem?_toArray, List.getElem?_cons_succ, List.getElem?_cons_zero]; rfl)
                intro K hK
                go_simp
                refine hK.out _ _ (by assumption) (fun hHeld => ?_)
                clear hK K
                try simp only [Act.put, List.setIfInBounds_toArray, List.set_cons_zero, List.set_cons_succ]
                refine wpAnyH_take (i := 24) (oi := ?oa24) (v := undef) ?hoa24 (by kernel_rfl) (by kernel_rfl) (by kernel_rfl) ?hqa24 ?hya24 (by assumption) ?resta24
                case hoa24 => (simp only [List.getElem?_toArray, List.getElem?_cons_succ, List.getElem?_cons_zero]; rfl)
                case hqa24 => exact fun _ _ _ h => h
                case hya24 => exact Or.inr ⟨by rfl, rfl⟩
                try simp only [Act.put, List.setIfInBounds_toArray, List.set_cons_zero, List.set_cons_succ]
                refine wpAnyH_take (i := 25) (oi := ?oa25) (v := ?va25) ?hoa25 (by kernel_rfl) (by kernel_rfl) (by kernel_rfl) ?hqa25 ?hya25 (by assumption) ?resta25
                case hoa25 => (simp only [List.getElem?_toArray, List.getElem?_cons_succ, List.getElem?_cons_zero]; rfl)
                case hqa25 => exact fun _ _ _ h => h
                case hya25 => (refine Or.inl ⟨by rfl, ?_⟩; intro w0 hSw; (try dsimp only at hSw); go_simp; try with_reducible rfl)
                try simp only [Act.put, List.setIfInBounds_toArray, List.set_cons_zero, List.set_cons_succ]
                refine wpAnyH_done (by kernel_rfl) ?_ _
                go_wp2_with (fail)
                exact ⟨⟨i + 1, sm, T', by go_num, rfl, HLT.out, hf, HXE, HAE, HPX2, HSA⟩, by have := HLT.out; simp [intOf]; omega⟩
              · have hneg : tv < 0 := by omega
                have hdd : decide (tv < 0) = true := decide_eq_true hneg
                obtain ⟨e0, e1, e2, e3, e4⟩ := HXA.out.chk.cells
                have HSF := Aside0.mk (show ∀ W', Fr (fun _ => False) W5 W' → (fun w' => w'.cell? ⟨w.heap.size, 0, none⟩ = some (.slice A0 G.kinds.length c0) ∧ w'.cell? ⟨w.heap.size, 1, none⟩ = some (.slice A1 G.precs.length c1) ∧ w'.cell? ⟨w.heap.size, 2, none⟩ = some (.slice A2 G.rules.length c2) ∧ w'.cell? ⟨w.heap.size, 3, none⟩ = some (.slice (some ad) G.prods.length c3) ∧ w'.cell? ⟨w.heap.size, 4, none⟩ = some (.int .i64 G.start) ∧ w'.cell? ⟨q, 0, none⟩ = some (.int .i64 pr.f0) ∧ w'.cell? ⟨q, 1, none⟩ = some (.slice B1 pr.f1.length d1) ∧ w'.cell? ⟨gb, pr.f0.toNat, none⟩ = some (.int .i64 tv) ∧ w'.cell? (adl.add pr.f0.toNat) = some (.int .i64 lz)) W' from fun W' hF => ⟨hF.cell e0 id, hF.cell e1 id, hF.cell e2 id, hF.cell e3 id, hF.cell e4 id, hF.cell z0 id, hF.cell z1 id, hF.cell hxo id, hF.cell hxl id⟩)
                have HFr0 := Aside0.mk (Fr.refl (fun _ => False) W5).drew
                clear z0 z1 hxo hxl e0 e1 e2 e3 e4
                cases rb with
                | false =>
                  have HPX2 := Aside0.mk (HX3.out rfl)
                  clear HX1 HX2 HX3 HX4 HNG
                  refine wp_region_held_drew (S := fun w' => w'.cell? ⟨w.heap.size, 0, none⟩ = some (.slice A0 G.kinds.length c0) ∧ w'.cell? ⟨w.heap.size, 1, none⟩ = some (.slice A1 G.precs.length c1) ∧ w'.cell? ⟨w.heap.size, 2, none⟩ = some (.slice A2 G.rules.length c2) ∧ w'.cell? ⟨w.heap.size, 3, none⟩ = some (.slice (some ad) G.prods.length c3) ∧ w'.cell? ⟨w.heap.size, 4, none⟩ = some (.int .i64 G.start) ∧ w'.cell? ⟨q, 0, none⟩ = some (.int .i64 pr.f0) ∧ w'.cell? ⟨q, 1, none⟩ = some (.slice B1 pr.f1.length d1) ∧ w'.cell? ⟨gb, pr.f0.toNat, none⟩ = some (.int .i64 tv) ∧ w'.cell? (adl.add pr.f0.toNat) = some (.int .i64 lz)) (by kernel_rfl) (HSF.out _ (Fr.refl (fun _ => False) W5).drew) (fun hHeld => ?_)
                  refine wpAnyH_take (i := 0) (oi := ?ob0) (v := ?vb0) ?hob0 (by kernel_rfl) (by kernel_rfl) (by kernel_rfl) ?hqb0 ?hyb0 (by assumption) ?restb0
                  case hob0 => (simp only [List.getElem?_toArray, List.getElem?_cons_zero]; rfl)
                  case hqb0 => exact fun _ _ _ h => h
                  case hyb0 => (refine Or.inl ⟨by rfl, ?_⟩; intro w0 hSw; (try dsimp only at hSw); go_simp; try with_reducible rfl)
                  try simp only [Act.put, List.setIfInBounds_toArray, List.set_cons_zero, List.set_cons_succ]
                  refine wpAnyH_take (i := 1) (oi := ?ob1) (v := ?vb1) ?hob1 (by kernel_rfl) (by kernel_rfl) (by kernel_rfl) ?hqb1 ?hyb1 (by assumption) ?restb1
                  case hob1 => (simp only [List.getElem?_toArray, List.getElem?_cons_succ, List.getElem?_cons_zero]; rfl)
                  case hqb1 => exact fun _ _ _ h => h
                  case hyb1 => (refine Or.inl ⟨by rfl, ?_⟩; intro w0 hSw; (try dsimp only at hSw); go_simp; try with_reducible rfl)
                  try simp only [Act.put, List.setIfInBounds_toArray, List.set_cons_zero, List.set_cons_succ]
                  refine wpAnyH_take (i := 2) (oi := ?ob2) (v := ?vb2) ?hob2 (by kernel_rfl) (by kernel_rfl) (by kernel_rfl) ?hqb2 ?hyb2 (by assumption) ?restb2
                  case hob2 => (simp only [List.getElem?_toArray, List.getElem?_cons_succ, List.getElem?_cons_zero]; rfl)
                  case hqb2 => exact fun _ _ _ h => h
                  case hyb2 => (refine Or.inl ⟨by rfl, ?_⟩; intro w0 hSw; (try dsimp only at hSw); go_simp; try with_reducible rfl)
                  try simp only [Act.put, List.setIfInBounds_toArray, List.set_cons_zero, List.set_cons_succ]
                  refine wpAnyH_take (i := 3) (oi := ?ob3) (v := ?vb3) ?hob3 (by kernel_rfl) (by kernel_rfl) (by kernel_rfl) ?hqb3 ?hyb3 (by assumption) ?restb3
                  case hob3 => (simp only [List.getElem?_toArray, List.getElem?_cons_succ, List.getElem?_cons_zero]; rfl)
                  case hqb3 => exact fun _ _ _ h => h
                  case hyb3 => (refine Or.inl ⟨by rfl, ?_⟩; intro w0 hSw; (try dsimp only at hSw); go_simp; try with_reducible rfl)
                  try simp only [Act.put, List.setIfInBounds_toArray, List.set_cons_zero, List.set_cons_succ]
                  refine wpAnyH_take (i := 4) (oi := ?ob4) (v := ?vb4) ?hob4 (by kernel_rfl) (by kernel_rfl) (by kernel_rfl) ?hqb4 ?hyb4 (by assumption) ?restb4
                  case hob4 => (simp only [List.getElem?_toArray, List.getElem?_cons_succ, List.getElem?_cons_zero]; rfl)
                  case hqb4 => exact fun _ _ _ h => h
                  case hyb4 => (refine Or.inl ⟨by rfl, ?_⟩; intro w0 hSw; (try dsimp only at hSw); go_simp; try with_reducible rfl)
                  try simp only [Act.put, List.setIfInBounds_toArray, List.set_cons_zero, List.set_cons_succ]
                  refine wpAnyH_take (i := 5) (oi := ?ob5) (v := .bool true) ?hob5 (by kernel_rfl) (by kernel_rfl) (by kernel_rfl) ?hqb5 ?hyb5 (by assumption) ?restb5
                  case hob5 => (simp only [List.getElem?_toArray, List.getElem?_cons_succ, List.getElem?_cons_zero]; rfl)
                  case hqb5 => exact fun _ _ _ h => h
                  case hyb5 => (refine Or.inl ⟨by rfl, ?_⟩; intro w0 hSw; (try dsimp only at hSw); go_simp; try with_reducible rfl)
                  try simp only [Act.put, List.setIfInBounds_toArray, List.set_cons_zero, List.set_cons_succ]
                  refine wpAnyH_take (i := 6) (oi := ?ob6) (v := ?vb6) ?hob6 (by kernel_rfl) (by kernel_rfl) (by kernel_rfl) ?hqb6 ?hyb6 (by assumption) ?restb6
                  case hob6 => (simp only [List.getElem?_toArray, List.getElem?_cons_succ, List.getElem?_cons_zero]; rfl)
                  case hqb6 => exact fun _ _ _ h => h
                  case hyb6 => (refine Or.inl ⟨by rfl, ?_⟩; intro w0 hSw; (try dsimp only at hSw); go_simp; try with_reducible rfl)
                  try simp only [Act.put, List.setIfInBounds_toArray, List.set_cons_zero, List.set_cons_succ]
                  refine wpAnyH_take (i := 7) (oi := ?ob7) (v := ?vb7) ?hob7 (by kernel_rfl) (by kernel_rfl) (by kernel_rfl) ?hqb7 ?hyb7 (by assumption) ?restb7
                  case hob7 => (simp only [List.getElem?_toArray, List.getElem?_cons_succ, List.getElem?_cons_zero]; rfl)
                  case hqb7 => exact fun _ _ _ h => h
                  case hyb7 => (refine Or.inl ⟨by rfl, ?_⟩; intro w0 hSw; (try dsimp only at hSw); go_simp; try with_reducible rfl)
                  try simp only [Act.put, List.setIfInBounds_toArray, List.set_cons_zero, List.set_cons_succ]
                  refine wpAnyH_take (i := 8) (oi := ?ob8) (v := ?vb8) ?hob8 (by kernel_rfl) (by kernel_rfl) (by kernel_rfl) ?hqb8 ?hyb8 (by assumption) ?restb8
                  case hob8 => (simp only [List.getElem?_toArray, List.getElem?_cons_succ, List.getElem?_cons_zero]; rfl)
                  case hqb8 => exact fun _ _ _ h => h
                  case hyb8 => (refine Or.inl ⟨by rfl, ?_⟩; intro w0 hSw; (try dsimp only at hSw); go_simp; try with_reducible rfl)
                  try simp only [Act.put, List.setIfInBounds_toArray, List.set_cons_zero, List.set_cons_succ]
                  refine wpAnyH_take (i := 9) (oi := ?ob9) (v := ?vb9) ?hob9 (by kernel_rfl) (by kernel_rfl) (by kernel_rfl) ?hqb9 ?hyb9 (by assumption) ?restb9
                  case hob9 => (simp only [List.getElem?_toArray, List.getElem?_cons_succ, List.getElem?_cons_zero]; rfl)
                  case hqb9 => exact fun _ _ _ h => h
                  case hyb9 => (refine Or.inl ⟨by rfl, ?_⟩; intro w0 hSw; (try dsimp only at hSw); go_simp; try with_reducible rfl)
                  try simp only [Act.put, List.setIfInBounds_toArray, List.set_cons_zero, List.set_cons_succ]
                  refine wpAnyH_take (i := 10) (oi := ?ob10) (v := ?vb10) ?hob10 (by kernel_rfl) (by kernel_rfl) (by kernel_rfl) ?hqb10 ?hyb10 (by assumption) ?restb10
                  case hob10 => (simp only [List.getElem?_toArray, List.getElem?_cons_succ, List.getElem?_cons_zero]; rfl)
                  case hqb10 => exact fun _ _ _ h => h
                  case hyb10 => (refine Or.inl ⟨by rfl, ?_⟩; intro w0 hSw; (try dsimp only at hSw); go_simp; try with_reducible rfl)
                  try simp only [Act.put, List.setIfInBounds_toArray, List.set_cons_zero, List.set_cons_succ]
                  refine wpAnyH_ready (rs := [11]) (by kernel_rfl) (by simp) ?_
                  refine AllReadyH.cons (o := ?ob11) ?hob11 ?hsb11 AllReadyH.nil
                  case hob11 => (simp only [List.getElem?_toArray, List.getElem?_cons_succ, List.getElem?_cons_zero]; rfl)
                  intro K hK
                  go_simp
                  refine (HRK.out _ HFr0.out).mono ?_
                  rintro e W6 ⟨rfl, hF6⟩
                  have HF6 := Aside0.mk (HFr0.out.trans hF6 (fun _ _ h => h))
                  clear hF6
                  dsimp only
                  refine hK.out _ _ (HSF.out _ HF6.out) (fun hHeld => ?_)
                  clear hK K
                  try simp only [Act.put, List.setIfInBounds_toArray, List.set_cons_zero, List.set_cons_succ]
                  refine wpAnyH_take (i := 12) (oi := ?ob12) (v := ?vb12) ?hob12 (by kernel_rfl) (by kernel_rfl) (by kernel_rfl) ?hqb12 ?hyb12 (by assumption) ?restb12
                  case hob12 => (simp only [List.getElem?_toArray, List.getElem?_cons_succ, List.getElem?_cons_zero]; rfl)
                  case hqb12 => exact fun _ _ _ h => h
                  case hyb12 => (refine Or.inl ⟨by rfl, ?_⟩; intro w0 hSw; (try dsimp only at hSw); go_simp; try with_reducible rfl)
                  try simp only [Act.put, List.setIfInBounds_toArray, List.set_cons_zero, List.set_cons_succ]
                  refine wpAnyH_take (i := 13) (oi := ?ob13) (v := ?vb13) ?hob13 (by kernel_rfl) (by kernel_rfl) (by kernel_rfl) ?hqb13 ?hyb13 (by assumption) ?restb13
                  case hob13 => (simp only [List.getElem?_toArray, List.getElem?_cons_succ, List.getElem?_cons_zero]; rfl)
                  case hqb13 => exact fun _ _ _ h => h
                  case hyb13 => (refine Or.inl ⟨by rfl, ?_⟩; intro w0 hSw; (try dsimp only at hSw); go_simp; try with_reducible rfl)
                  try simp only [Act.put, List.setIfInBounds_toArray, List.set_cons_zero, List.set_cons_succ]
                  refine wpAnyH_take (i := 14) (oi := ?ob14) (v := undef) ?hob14 (by kernel_rfl) (by kernel_rfl) (by kernel_rfl) ?hqb14 ?hyb14 (by assumption) ?restb14
                  case hob14 => (simp only [List.getElem?_toArray, List.getElem?_cons_succ, List.getElem?_cons_zero]; rfl)
                  case hqb14 => exact fun _ _ _ h => h
                  case hyb14 => exact Or.inr ⟨by rfl, rfl⟩
                  try simp only [Act.put, List.setIfInBounds_toArray, List.set_cons_zero, List.set_cons_succ]
                  refine wpAnyH_take (i := 15) (oi := ?ob15) (v := undef) ?hob15 (by kernel_rfl) (by kernel_rfl) (by kernel_rfl) ?hqb15 ?hyb15 (by assumption) ?restb15
                  case hob15 => (simp only [List.getElem?_toArray, List.getElem?_cons_succ, List.getElem?_cons_zero]; rfl)
                  case hqb15 => exact fun _ _ _ h => h
                  case hyb15 => exact Or.inr ⟨by rfl, rfl⟩
                  try simp only [Act.put, List.setIfInBounds_toArray, List.set_cons_zero, List.set_cons_succ]
                  refine wpAnyH_take (i := 16) (oi := ?ob16) (v := undef) ?hob16 (by kernel_rfl) (by kernel_rfl) (by kernel_rfl) ?hqb16 ?hyb16 (by assumption) ?restb16
                  case hob16 => (simp only [List.getElem?_toArray, List.getElem?_cons_succ, List.getElem?_cons_zero]; rfl)
                  case hqb16 => exact fun _ _ _ h => h
                  case hyb16 => exact Or.inr ⟨by rfl, rfl⟩
                  try simp only [Act.put, List.setIfInBounds_toArray, List.set_cons_zero, List.set_cons_succ]
                  refine wpAnyH_take (i := 17) (oi := ?ob17) (v := undef) ?hob17 (by kernel_rfl) (by kernel_rfl) (by kernel_rfl) ?hqb17 ?hyb17 (by assumption) ?restb17
                  case hob17 => (simp only [List.getElem?_toArray, List.getElem?_cons_succ, List.getElem?_cons_zero]; rfl)
                  case hqb17 => exact fun _ _ _ h => h
                  case hyb17 => exact Or.inr ⟨by rfl, rfl⟩
                  try simp only [Act.put, List.setIfInBounds_toArray, List.set_cons_zero, List.set_cons_succ]
                  refine wpAnyH_take (i := 19) (oi := ?ob19) (v := undef) ?hob19 (by kernel_rfl) (by kernel_rfl) (by kernel_rfl) ?hqb19 ?hyb19 (by assumption) ?restb19
                  case hob19 => (simp only [List.getElem?_toArray, List.getElem?_cons_succ, List.getElem?_cons_zero]; rfl)
                  case hqb19 => exact fun _ _ _ h => h
                  case hyb19 => exact Or.inr ⟨by rfl, rfl⟩
                  try simp only [Act.put, List.setIfInBounds_toArray, List.set_cons_zero, List.set_cons_succ]
                  refine wpAnyH_take (i := 20) (oi := ?ob20) (v := undef) ?hob20 (by kernel_rfl) (by kernel_rfl) (by kernel_rfl) ?hqb20 ?hyb20 (by assumption) ?restb20
                  case hob20 => (simp only [List.getElem?_toArray, List.getElem?_cons_succ, List.getElem?_cons_zero]; rfl)
                  case hqb20 => exact fun _ _ _ h => h
                  case hyb20 => exact Or.inr ⟨by rfl, rfl⟩
                  try simp only [Act.put, List.setIfInBounds_toArray, List.set_cons_zero, List.set_cons_succ]
                  refine wpAnyH_take (i := 21) (oi := ?ob21) (v := undef) ?hob21 (by kernel_rfl) (by kernel_rfl) (by kernel_rfl) ?hqb21 ?hyb21 (by assumption) ?restb21
                  case hob21 => (simp only [List.getElem?_toArray, List.getElem?_cons_succ, List.getElem?_cons_zero]; rfl)
                  case hqb21 => exact fun _ _ _ h => h
                  case hyb21 => exact Or.inr ⟨by rfl, rfl⟩
                  try simp only [Act.put, List.setIfInBounds_toArray, List.set_cons_zero, List.set_cons_succ]
                  refine wpAnyH_take (i := 22) (oi := ?ob22) (v := undef) ?hob22 (by kernel_rfl) (by kernel_rfl) (by kernel_rfl) ?hqb22 ?hyb22 (by assumption) ?restb22
                  case hob22 => (simp only [List.getElem?_toArray, List.getElem?_cons_succ, List.getElem?_cons_zero]; rfl)
                  case hqb22 => exact fun _ _ _ h => h
                  case hyb22 => exact Or.inr ⟨by rfl, rfl⟩
                  try simp only [Act.put, List.setIfInBounds_toArray, List.set_cons_zero, List.set_cons_succ]
                  refine wpAnyH_take (i := 23) (oi := ?ob23) (v := undef) ?hob23 (by kernel_rfl) (by kernel_rfl) (by kernel_rfl) ?hqb23 ?hyb23 (by assumption) ?restb23
                  case hob23 => (simp only [List.getElem?_toArray, List.getElem?_cons_succ, List.getElem?_cons_zero]; rfl)
                  case hqb23 => exact fun _ _ _ h => h
                  case hyb23 => exact Or.inr ⟨by rfl, rfl⟩
                  try simp only [Act.put, List.setIfInBounds_toArray, List.set_cons_zero, List.set_cons_succ]
                  refine wpAnyH_ready (rs := [18]) (by kernel_rfl) (by simp) ?_
                  refine AllReadyH.cons (o := ?ob18) ?hob18 ?hsb18 AllReadyH.nil
                  case hob18 => (simp only [List.getElem?_toArray, List.getElem?_cons_succ, List.getElem?_cons_zero]; rfl)
                  intro K hK
                  go_simp
                  refine hK.out _ _ (by assumption) (fun hHeld => ?_)
                  clear hK K
                  try simp only [Act.put, List.setIfInBounds_toArray, List.set_cons_zero, List.set_cons_succ]
                  refine wpAnyH_take (i := 24) (oi := ?ob24) (v := undef) ?hob24 (by kernel_rfl) (by kernel_rfl) (by kernel_rfl) ?hqb24 ?hyb24 (by assumption) ?restb24
                  case hob24 => (simp only [List.getElem?_toArray, List.getElem?_cons_succ, List.getElem?_cons_zero]; rfl)
                  case hqb24 => exact fun _ _ _ h => h
                  case hyb24 => exact Or.inr ⟨by rfl, rfl⟩
                  try simp only [Act.put, List.setIfInBounds_toArray, List.set_cons_zero, List.set_cons_succ]
                  refine wpAnyH_take (i := 25) (oi := ?ob25) (v := ?vb25) ?hob25 (by kernel_rfl) (by kernel_rfl) (by kernel_rfl) ?hqb25 ?hyb25 (by assumption) ?restb25
                  case hob25 => (simp only [List.getElem?_toArray, List.getElem?_cons_succ, List.getElem?_cons_zero]; rfl)
                  case hqb25 => exact fun _ _ _ h => h
                  case hyb25 => (refine Or.inl ⟨by rfl, ?_⟩; intro w0 hSw; (try dsimp only at hSw); go_simp; try with_reducible rfl)
                  try simp only [Act.put, List.setIfInBounds_toArray, List.set_cons_zero, List.set_cons_succ]
                  refine wpAnyH_done (by kernel_rfl) ?_ _
                  have HXE := Aside0.mk (HXA.out.go HF6.out)
                  have HAE := Aside0.mk (Kd.R_below HAA.out HF6.out.to_below)
                  clear HXA HAA
                  go_wp2_with (fail)
                  exact ⟨⟨i + 1, sm, T', by go_num, rfl, HLT.out, hf, HXE, HAE, HPX2, HSA⟩, by have := HLT.out; simp [intOf]; omega⟩
                | true =>
                  refine wp_region_held_drew (S := fun w' => w'.cell? ⟨w.heap.size, 0, none⟩ = some (.slice A0 G.kinds.length c0) ∧ w'.cell? ⟨w.heap.size, 1, none⟩ = some (.slice A1 G.precs.length c1) ∧ w'.cell? ⟨w.heap.size, 2, none⟩ = some (.slice A2 G.rules.length c2) ∧ w'.cell? ⟨w.heap.size, 3, none⟩ = some (.slice (some ad) G.prods.length c3) ∧ w'.cell? ⟨w.heap.size, 4, none⟩ = some (.int .i64 G.start) ∧ w'.cell? ⟨q, 0, none⟩ = some (.int .i64 pr.f0) ∧ w'.cell? ⟨q, 1, none⟩ = some (.slice B1 pr.f1.length d1) ∧ w'.cell? ⟨gb, pr.f0.toNat, none⟩ = some (.int .i64 tv) ∧ w'.cell? (adl.add pr.f0.toNat) = some (.int .i64 lz)) (by kernel_rfl) (HSF.out _ (Fr.refl (fun _ => False) W5).drew) (fun hHeld => ?_)
                  refine wpAnyH_take (i := 0) (oi := ?od0) (v := ?vd0) ?hod0 (by kernel_rfl) (by kernel_rfl) (by kernel_rfl) ?hqd0 ?hyd0 (by assumption) ?restd0
                  case hod0 => (simp only [List.getElem?_toArray, List.getElem?_cons_zero]; rfl)
                  case hqd0 => exact fun _ _ _ h => h
                  case hyd0 => (refine Or.inl ⟨by rfl, ?_⟩; intro w0 hSw; (try dsimp only at hSw); go_simp; try with_reducible rfl)
                  try simp only [Act.put, List.setIfInBounds_toArray, List.set_cons_zero, List.set_cons_succ]
                  refine wpAnyH_take (i := 1) (oi := ?od1) (v := ?vd1) ?hod1 (by kernel_rfl) (by kernel_rfl) (by kernel_rfl) ?hqd1 ?hyd1 (by assumption) ?restd1
                  case hod1 => (simp only [List.getElem?_toArray, List.getElem?_cons_succ, List.getElem?_cons_zero]; rfl)
                  case hqd1 => exact fun _ _ _ h => h
                  case hyd1 => (refine Or.inl ⟨by rfl, ?_⟩; intro w0 hSw; (try dsimp only at hSw); go_simp; try with_reducible rfl)
                  try simp only [Act.put, List.setIfInBounds_toArray, List.set_cons_zero, List.set_cons_succ]
                  refine wpAnyH_take (i := 2) (oi := ?od2) (v := ?vd2) ?hod2 (by kernel_rfl) (by kernel_rfl) (by kernel_rfl) ?hqd2 ?hyd2 (by assumption) ?restd2
                  case hod2 => (simp only [List.getElem?_toArray, List.getElem?_cons_succ, List.getElem?_cons_zero]; rfl)
                  case hqd2 => exact fun _ _ _ h => h
                  case hyd2 => (refine Or.inl ⟨by rfl, ?_⟩; intro w0 hSw; (try dsimp only at hSw); go_simp; try with_reducible rfl)
                  try simp only [Act.put, List.setIfInBounds_toArray, List.set_cons_zero, List.set_cons_succ]
                  refine wpAnyH_take (i := 3) (oi := ?od3) (v := ?vd3) ?hod3 (by kernel_rfl) (by kernel_rfl) (by kernel_rfl) ?hqd3 ?hyd3 (by assumption) ?restd3
                  case hod3 => (simp only [List.getElem?_toArray, List.getElem?_cons_succ, List.getElem?_cons_zero]; rfl)
                  case hqd3 => exact fun _ _ _ h => h
                  case hyd3 => (refine Or.inl ⟨by rfl, ?_⟩; intro w0 hSw; (try dsimp only at hSw); go_simp; try with_reducible rfl)
                  try simp only [Act.put, List.setIfInBounds_toArray, List.set_cons_zero, List.set_cons_succ]
                  refine wpAnyH_take (i := 4) (oi := ?od4) (v := ?vd4) ?hod4 (by kernel_rfl) (by kernel_rfl) (by kernel_rfl) ?hqd4 ?hyd4 (by assumption) ?restd4
                  case hod4 => (simp only [List.getElem?_toArray, List.getElem?_cons_succ, List.getElem?_cons_zero]; rfl)
                  case hqd4 => exact fun _ _ _ h => h
                  case hyd4 => (refine Or.inl ⟨by rfl, ?_⟩; intro w0 hSw; (try dsimp only at hSw); go_simp; try with_reducible rfl)
                  try simp only [Act.put, List.setIfInBounds_toArray, List.set_cons_zero, List.set_cons_succ]
                  refine wpAnyH_take (i := 5) (oi := ?od5) (v := .bool true) ?hod5 (by kernel_rfl) (by kernel_rfl) (by kernel_rfl) ?hqd5 ?hyd5 (by assumption) ?restd5
                  case hod5 => (simp only [List.getElem?_toArray, List.getElem?_cons_succ, List.getElem?_cons_zero]; rfl)
                  case hqd5 => exact fun _ _ _ h => h
                  case hyd5 => (refine Or.inl ⟨by rfl, ?_⟩; intro w0 hSw; (try dsimp only at hSw); go_simp; try with_reducible rfl)
                  try simp only [Act.put, List.setIfInBounds_toArray, List.set_cons_zero, List.set_cons_succ]
                  refine wpAnyH_take (i := 6) (oi := ?od6) (v := ?vd6) ?hod6 (by kernel_rfl) (by kernel_rfl) (by kernel_rfl) ?hqd6 ?hyd6 (by assumption) ?restd6
                  case hod6 => (simp only [List.getElem?_toArray, List.getElem?_cons_succ, List.getElem?_cons_zero]; rfl)
                  case hqd6 => exact fun _ _ _ h => h
                  case hyd6 => (refine Or.inl ⟨by rfl, ?_⟩; intro w0 hSw; (try dsimp only at hSw); go_simp; try with_reducible rfl)
                  try simp only [Act.put, List.setIfInBounds_toArray, List.set_cons_zero, List.set_cons_succ]
                  refine wpAnyH_take (i := 7) (oi := ?od7) (v := ?vd7) ?hod7 (by kernel_rfl) (by kernel_rfl) (by kernel_rfl) ?hqd7 ?hyd7 (by assumption) ?restd7
                  case hod7 => (simp only [List.getElem?_toArray, List.getElem?_cons_succ, List.getElem?_cons_zero]; rfl)
                  case hqd7 => exact fun _ _ _ h => h
                  case hyd7 => (refine Or.inl ⟨by rfl, ?_⟩; intro w0 hSw; (try dsimp only at hSw); go_simp; try with_reducible rfl)
                  try simp only [Act.put, List.setIfInBounds_toArray, List.set_cons_zero, List.set_cons_succ]
                  refine wpAnyH_take (i := 8) (oi := ?od8) (v := ?vd8) ?hod8 (by kernel_rfl) (by kernel_rfl) (by kernel_rfl) ?hqd8 ?hyd8 (by assumption) ?restd8
                  case hod8 => (simp only [List.getElem?_toArray, List.getElem?_cons_succ, List.getElem?_cons_zero]; rfl)
                  case hqd8 => exact fun _ _ _ h => h
                  case hyd8 => (refine Or.inl ⟨by rfl, ?_⟩; intro w0 hSw; (try dsimp only at hSw); go_simp; try with_reducible rfl)
                  try simp only [Act.put, List.setIfInBounds_toArray, List.set_cons_zero, List.set_cons_succ]
                  refine wpAnyH_take (i := 9) (oi := ?od9) (v := ?vd9) ?hod9 (by kernel_rfl) (by kernel_rfl) (by kernel_rfl) ?hqd9 ?hyd9 (by assumption) ?restd9
                  case hod9 => (simp only [List.getElem?_toArray, List.getElem?_cons_succ, List.getElem?_cons_zero]; rfl)
                  case hqd9 => exact fun _ _ _ h => h
                  case hyd9 => (refine Or.inl ⟨by rfl, ?_⟩; intro w0 hSw; (try dsimp only at hSw); go_simp; try with_reducible rfl)
                  try simp only [Act.put, List.setIfInBounds_toArray, List.set_cons_zero, List.set_cons_succ]
                  refine wpAnyH_take (i := 10) (oi := ?od10) (v := ?vd10) ?hod10 (by kernel_rfl) (by kernel_rfl) (by kernel_rfl) ?hqd10 ?hyd10 (by assumption) ?restd10
                  case hod10 => (simp only [List.getElem?_toArray, List.getElem?_cons_succ, List.getElem?_cons_zero]; rfl)
                  case hqd10 => exact fun _ _ _ h => h
                  case hyd10 => (refine Or.inl ⟨by rfl, ?_⟩; intro w0 hSw; (try dsimp only at hSw); go_simp; try with_reducible rfl)
                  try simp only [Act.put, List.setIfInBounds_toArray, List.set_cons_zero, List.set_cons_succ]
                  refine wpAnyH_ready (rs := [11]) (by kernel_rfl) (by simp) ?_
                  refine AllReadyH.cons (o := ?od11) ?hod11 ?hsd11 AllReadyH.nil
                  case hod11 => (simp only [List.getElem?_toArray, List.getElem?_cons_succ, List.getElem?_cons_zero]; rfl)
                  intro K hK
                  go_simp
                  refine (HRK.out _ HFr0.out).mono ?_
                  rintro e W6 ⟨rfl, hF6⟩
                  have HF6 := Aside0.mk (HFr0.out.trans hF6 (fun _ _ h => h))
                  clear hF6
                  dsimp only
                  refine hK.out _ _ (HSF.out _ HF6.out) (fun hHeld => ?_)
                  clear hK K
                  try simp only [Act.put, List.setIfInBounds_toArray, List.set_cons_zero, List.set_cons_succ]
                  refine wpAnyH_take (i := 12) (oi := ?od12) (v := ?vd12) ?hod12 (by kernel_rfl) (by kernel_rfl) (by kernel_rfl) ?hqd12 ?hyd12 (by assumption) ?restd12
                  case hod12 => (simp only [List.getElem?_toArray, List.getElem?_cons_succ, List.getElem?_cons_zero]; rfl)
                  case hqd12 => exact fun _ _ _ h => h
                  case hyd12 => (refine Or.inl ⟨by rfl, ?_⟩; intro w0 hSw; (try dsimp only at hSw); go_simp; try with_reducible rfl)
                  try simp only [Act.put, List.setIfInBounds_toArray, List.set_cons_zero, List.set_cons_succ]
                  refine wpAnyH_take (i := 13) (oi := ?od13) (v := ?vd13) ?hod13 (by kernel_rfl) (by kernel_rfl) (by kernel_rfl) ?hqd13 ?hyd13 (by assumption) ?restd13
                  case hod13 => (simp only [List.getElem?_toArray, List.getElem?_cons_succ, List.getElem?_cons_zero]; rfl)
                  case hqd13 => exact fun _ _ _ h => h
                  case hyd13 => (refine Or.inl ⟨by rfl, ?_⟩; intro w0 hSw; (try dsimp only at hSw); go_simp; try with_reducible rfl)
                  try simp only [Act.put, List.setIfInBounds_toArray, List.set_cons_zero, List.set_cons_succ]
                  refine wpAnyH_take (i := 14) (oi := ?od14) (v := ?vd14) ?hod14 (by kernel_rfl) (by kernel_rfl) (by kernel_rfl) ?hqd14 ?hyd14 (by assumption) ?restd14
                  case hod14 => (simp only [List.getElem?_toArray, List.getElem?_cons_succ, List.getElem?_cons_zero]; rfl)
                  case hqd14 => exact fun _ _ _ h => h
                  case hyd14 => (refine Or.inl ⟨by rfl, ?_⟩; intro w0 hSw; (try dsimp only at hSw); go_simp; try with_reducible rfl)
                  try simp only [Act.put, List.setIfInBounds_toArray, List.set_cons_zero, List.set_cons_succ]
                  refine wpAnyH_take (i := 15) (oi := ?od15) (v := ?vd15) ?hod15 (by kernel_rfl) (by kernel_rfl) (by kernel_rfl) ?hqd15 ?hyd15 (by assumption) ?restd15
                  case hod15 => (simp only [List.getElem?_toArray, List.getElem?_cons_succ, List.getElem?_cons_zero]; rfl)
                  case hqd15 => exact fun _ _ _ h => h
                  case hyd15 => (refine Or.inl ⟨by rfl, ?_⟩; intro w0 hSw; (try dsimp only at hSw); go_simp; try with_reducible rfl)
                  try simp only [Act.put, List.setIfInBounds_toArray, List.set_cons_zero, List.set_cons_succ]
                  refine wpAnyH_take (i := 16) (oi := ?od16) (v := ?vd16) ?hod16 (by kernel_rfl) (by kernel_rfl) (by kernel_rfl) ?hqd16 ?hyd16 (by assumption) ?restd16
                  case hod16 => (simp only [List.getElem?_toArray, List.getElem?_cons_succ, List.getElem?_cons_zero]; rfl)
                  case hqd16 => exact fun _ _ _ h => h
                  case hyd16 => (refine Or.inl ⟨by rfl, ?_⟩; intro w0 hSw; (try dsimp only at hSw); go_simp; try with_reducible rfl)
                  try simp only [Act.put, List.setIfInBounds_toArray, List.set_cons_zero, List.set_cons_succ]
                  refine wpAnyH_take (i := 17) (oi := ?od17) (v := ?vd17) ?hod17 (by kernel_rfl) (by kernel_rfl) (by kernel_rfl) ?hqd17 ?hyd17 (by assumption) ?restd17
                  case hod17 => (simp only [List.getElem?_toArray, List.getElem?_cons_succ, List.getElem?_cons_zero]; rfl)
                  case hqd17 => exact fun _ _ _ h => h
                  case hyd17 => (refine Or.inl ⟨by rfl, ?_⟩; intro w0 hSw; (try dsimp only at hSw); go_simp; try with_reducible rfl)
                  try simp only [Act.put, List.setIfInBounds_toArray, List.set_cons_zero, List.set_cons_succ]
                  refine wpAnyH_take (i := 19) (oi := ?od19) (v := ?vd19) ?hod19 (by kernel_rfl) (by kernel_rfl) (by kernel_rfl) ?hqd19 ?hyd19 (by assumption) ?restd19
                  case hod19 => (simp only [List.getElem?_toArray, List.getElem?_cons_succ, List.getElem?_cons_zero]; rfl)
                  case hqd19 => exact fun _ _ _ h => h
                  case hyd19 => (refine Or.inl ⟨by rfl, ?_⟩; intro w0 hSw; (try dsimp only at hSw); go_simp; try with_reducible rfl)
                  try simp only [Act.put, List.setIfInBounds_toArray, List.set_cons_zero, List.set_cons_succ]
                  refine wpAnyH_take (i := 20) (oi := ?od20) (v := ?vd20) ?hod20 (by kernel_rfl) (by kernel_rfl) (by kernel_rfl) ?hqd20 ?hyd20 (by assumption) ?restd20
                  case hod20 => (simp only [List.getElem?_toArray, List.getElem?_cons_succ, List.getElem?_cons_zero]; rfl)
                  case hqd20 => exact fun _ _ _ h => h
                  case hyd20 => (refine Or.inl ⟨by rfl, ?_⟩; intro w0 hSw; (try dsimp only at hSw); go_simp; try with_reducible rfl)
                  try simp only [Act.put, List.setIfInBounds_toArray, List.set_cons_zero, List.set_cons_succ]
                  refine wpAnyH_take (i := 21) (oi := ?od21) (v := ?vd21) ?hod21 (by kernel_rfl) (by kernel_rfl) (by kernel_rfl) ?hqd21 ?hyd21 (by assumption) ?restd21
                  case hod21 => (simp only [List.getElem?_toArray, List.getElem?_cons_succ, List.getElem?_cons_zero]; rfl)
                  case hqd21 => exact fun _ _ _ h => h
                  case hyd21 => (refine Or.inl ⟨by rfl, ?_⟩; intro w0 hSw; (try dsimp only at hSw); go_simp; try with_reducible rfl)
                  try simp only [Act.put, List.setIfInBounds_toArray, List.set_cons_zero, List.set_cons_succ]
                  refine wpAnyH_take (i := 22) (oi := ?od22) (v := ?vd22) ?hod22 (by kernel_rfl) (by kernel_rfl) (by kernel_rfl) ?hqd22 ?hyd22 (by assumption) ?restd22
                  case hod22 => (simp only [List.getElem?_toArray, List.getElem?_cons_succ, List.getElem?_cons_zero]; rfl)
                  case hqd22 => exact fun _ _ _ h => h
                  case hyd22 => (refine Or.inl ⟨by rfl, ?_⟩; intro w0 hSw; (try dsimp only at hSw); go_simp; try with_reducible rfl)
                  try simp only [Act.put, List.setIfInBounds_toArray, List.set_cons_zero, List.set_cons_succ]
                  refine wpAnyH_take (i := 23) (oi := ?od23) (v := ?vd23) ?hod23 (by kernel_rfl) (by kernel_rfl) (by kernel_rfl) ?hqd23 ?hyd23 (by assumption) ?restd23
                  case hod23 => (simp only [List.getElem?_toArray, List.getElem?_cons_succ, List.getElem?_cons_zero]; rfl)
                  case hqd23 => exact fun _ _ _ h => h
                  case hyd23 => (refine Or.inl ⟨by rfl, ?_⟩; intro w0 hSw; (try dsimp only at hSw); go_simp; try with_reducible rfl)
                  try simp only [Act.put, List.setIfInBounds_toArray, List.set_cons_zero, List.set_cons_succ]
                  refine wpAnyH_ready (rs := [18]) (by kernel_rfl) (by simp) ?_
                  refine AllReadyH.cons (o := ?od18) ?hod18 ?hsd18 AllReadyH.nil
                  case hod18 => (simp only [List.getElem?_toArray, List.getElem?_cons_succ, List.getElem?_cons_zero]; rfl)
                  intro K hK
                  go_simp
                  refine (HSC.out _ HF6.out).mono ?_
                  rintro e W7 ⟨rfl, hF7⟩
                  have HF7 := Aside0.mk (HF6.out.trans hF7 (fun _ _ h => h))
                  clear hF7
                  dsimp only
                  refine hK.out _ _ (HSF.out _ HF7.out) (fun hHeld => ?_)
                  clear hK K
                  try simp only [Act.put, List.setIfInBounds_toArray, List.set_cons_zero, List.set_cons_succ]
                  refine wpAnyH_take (i := 24) (oi := ?od24) (v := ?vd24) ?hod24 (by kernel_rfl) (by kernel_rfl) (by kernel_rfl) ?hqd24 ?hyd24 (by assumption) ?restd24
                  case hod24 => (simp only [List.getElem?_toArray, List.getElem?_cons_succ, List.getElem?_cons_zero]; rfl)
                  case hqd24 => exact fun _ _ _ h => h
                  case hyd24 => (refine Or.inl ⟨by rfl, ?_⟩; intro w0 hSw; (try dsimp only at hSw); go_simp; try with_reducible rfl)
                  try simp only [Act.put, List.setIfInBounds_toArray, List.set_cons_zero, List.set_cons_succ]
                  refine wpAnyH_take (i := 25) (oi := ?od25) (v := ?vd25) ?hod25 (by kernel_rfl) (by kernel_rfl) (by kernel_rfl) ?hqd25 ?hyd25 (by assumption) ?restd25
                  case hod25 => (simp only [List.getElem?_toArray, List.getElem?_cons_succ, List.getElem?_cons_zero]; rfl)
                  case hqd25 => exact fun _ _ _ h => h
                  case hyd25 => (refine Or.inl ⟨by rfl, ?_⟩; intro w0 hSw; (try dsimp only at hSw); go_simp; try with_reducible rfl)
                  try simp only [Act.put, List.setIfInBounds_toArray, List.set_cons_zero, List.set_cons_succ]
                  refine wpAnyH_done (by kernel_rfl) ?_ _
                  have HXE := Aside0.mk (HXA.out.go HF7.out)
                  have HAE := Aside0.mk (Kd.R_below HAA.out HF7.out.to_below)
                  have HPE := Aside0.mk (HF7.out.blk HPB.out id)
                  clear HXA HAA
                  by_cases hse : sz = lz
                  · have HPX2 := Aside0.mk (HX4.out hneg hse rfl)
                    have hng := HNG.out hneg
                    subst hse
                    have hf8 : negs (T'.set pr.f0.toNat i) + (if true = true then 1 else 0) ≤ negs T := by
                      rw [if_pos rfl]
                      split at hf <;> omega
                    have HX8 := Aside0.mk (HXE.out.put HZB.out pr.f0 (i : Int))
                    have HA8 := Aside0.mk (R_beside HAE.out hne pr.f0.toNat (.int .i64 (i : Int)))
                    obtain ⟨hxo, hfz⟩ := HXE.out.at HZB.out h00 h01
                    have u0 := (blk_cell HPE.out 0).trans (show _ = some (Value.int .i64 pr.f0) from rfl)
                    clear HX1 HX2 HX3 HX4 HNG hng
                    go_wp2_with (fail)
                    exact ⟨⟨i + 1, true, _, by go_num, rfl, HLT.out, hf8, HX8, HA8, HPX2, ⟨fun e => absurd e (by decide)⟩⟩, by have := HLT.out; simp [intOf]; omega⟩
                  · have HPX2 := Aside0.mk (HX2.out hse)
                    clear HX1 HX2 HX3 HX4 HNG
                    go_wp2_with (fail)
                    exact ⟨⟨i + 1, sm, T', by go_num, rfl, HLT.out, hf, HXE, HAE, HPX2, HSA⟩, by have := HLT.out; simp [intOf]; omega⟩
            · obtain rfl : i = G.prods.length := by omega
              go_wp2_with (fail)
              go_roundg (negs T)
              case measure => omega
              case rel => exact ⟨sm, T', rfl, hf, HX, ⟨by rw [HPX.out, passT_len]; exact HTL.out⟩, ⟨⟨HIT.out.1.elim fun n hn => ⟨n + 1, by show passT G L (iterT G L n) G.prods.length = T'; rw [hn]; exact HPX.out.symm⟩, fun e => by rw [HSA.out e]; exact HPX.out.symm.trans (HSA.out e)⟩⟩⟩
end Go.Proofs.Ytdngobjcdajogaa.Gram
