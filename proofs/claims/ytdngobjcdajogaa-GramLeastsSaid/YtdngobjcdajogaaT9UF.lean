/-
How many kinds a row makes at least, by the document: quoinref12.length, walked.
-/
import Derived.BigQuiet
import Derived.Test.YtdngobjcdajogaaT9UE
import Derived.Test.YtdngobjcdajogaaT9QH
namespace Go.Proofs.Ytdngobjcdajogaa.Gram
open Go.RowKit Go.Proofs.YtdngobjcdajogaaW.PrintWords Go.Proofs.YtdngobjcdajogaaW.PrintLast Go.Proofs.YtdngobjcdajogaaW.PrintMore Go.Proofs.Ytdngobjcdajogaa.Fr Go.Proofs.Ytdngobjcdajogaa.PGramFirsts Go.Proofs.Ytdngobjcdajogaa.TextSet
set_option maxHeartbeats 4000000 in
set_option maxRecDepth 100000 in
theorem length_calls (w : World) (G : Gr) (A0 A1 A2 A3 : Option Addr) (c0 c1 c2 c3 : Nat) (h : GAt w G A0 A1 A2 A3 c0 c1 c2 c3) (LA RA : Option Addr) (lc rc : Nat) (L row : List Int) (hK : G.kinds.length ≤ 1024) (hR : G.rules.length ≤ 2048) (hL : kI.C w LA L.length L) (hlc : L.length ≤ lc) (hr : kI.C w RA row.length row) (hrc : row.length ≤ rc) (hln : L.length = G.rules.length) (hB : Bound L) (hrow : RowOk G.kinds.length G.rules.length row) (hl : row.length ≤ 4611686018427387904) :
    Calls Try.prog 73 #[.agg #[.slice A0 G.kinds.length c0, .slice A1 G.precs.length c1, .slice A2 G.rules.length c2, .slice A3 G.prods.length c3, .int .i64 G.start], .slice LA L.length lc, .slice RA row.length rc] w fun e w' =>
      e = .returned (.int .i64 (sizeF G.kinds.length L 0 row)) ∧ Fr (fun _ => False) w w' := by
  have hu := Try.underlying26
  have HR := Aside0.mk hr
  have HL := Aside0.mk hL
  have HB := Aside0.mk hB
  have HRO := Aside0.mk hrow
  have HLN := Aside0.mk hln
  have HW := Aside0.mk (show ChkW w (w.alloc (.cells #[.slice A0 G.kinds.length c0, .slice A1 G.precs.length c1, .slice A2 G.rules.length c2, .slice A3 G.prods.length c3, .int .i64 G.start] 26)) G A0 A1 A2 A3 c0 c1 c2 c3 from ⟨blk_new w _, (Fr.refl _ w).alloc _⟩)
  clear h hL hlc hr hrc hB hrow hln
  go_enter Try.func73, Try.ntmps73
  go_upto_region 1 with fail
  generalize w.alloc (.cells #[.slice A0 G.kinds.length c0, .slice A1 G.precs.length c1, .slice A2 G.rules.length c2, .slice A3 G.prods.length c3, .int .i64 G.start] 26) = W0 at HW ⊢
  go_wp2_with (fail)
  go_loopw [8, 7] (fun a b W => ∃ (i : Nat) (p : Int), a = .int .i64 i ∧ b = .int .i64 p ∧ i ≤ row.length ∧ 0 ≤ p ∧ p ≤ 65537 ∧ Aside0 (ChkW w W G A0 A1 A2 A3 c0 c1 c2 c3) ∧ Aside0 (sizeF G.kinds.length L 0 row = sizeF G.kinds.length L p (row.drop i))) (fun a _ _ => row.length - (intOf a).toNat)
  case atStart => exact ⟨0, 0, rfl, rfl, Nat.zero_le _, Int.le_refl _, by omega, HW, ⟨by rw [List.drop_zero]⟩⟩
  case round =>
    clear HW
    obtain ⟨i, p, rfl, rfl, hi, hp0, hp1, HW, HS⟩ := hrel
    by_cases hlt : i < row.length
    · have HLT := Aside0.mk hlt
      obtain ⟨ax, rfl, hx⟩ := Kd.at_int (HW.out.fr.C (S := fun _ => False) (0 : Int) HR.out (fun _ _ _ => id)) (i : Int) (by omega) (by omega)
      simp only [Int.toNat_natCast] at hx
      obtain ⟨hx1, hx2⟩ := HRO.out i hlt
      have HSN := Aside0.mk (show sizeF G.kinds.length L 0 row = (if rd row (i : Int) < G.kinds.length then sizeF G.kinds.length L (mn (p + 1) 65537) (row.drop (i + 1)) else if rd L (rd row (i : Int) - G.kinds.length) < 0 then -1 else sizeF G.kinds.length L (mn (p + rd L (rd row (i : Int) - G.kinds.length)) 65537) (row.drop (i + 1))) from by rw [HS.out, drop_rd hlt]; rfl)
      generalize rd row (i : Int) = x at hx hx1 hx2 HSN
      clear HS
      obtain ⟨e0, e1, e2, e3, e4⟩ := HW.out.cells
      go_wp2_with (fail)
      go_quiet (fail)
      by_cases hk : x < G.kinds.length
      · have HSK := Aside0.mk (HSN.out.trans (if_pos hk))
        have HWD := Aside0.mk (HW.out.go ((Fr.refl (fun _ => False) wr).drewN nq))
        have hmn := mn_le (p + 1) 65537
        clear HSN
        go_wp2_with (fail)
        exact ⟨⟨i + 1, mn (p + 1) 65537, by go_num, congrArg (Value.int .i64) (by rw [hmn]; repeat' split <;> omega), HLT.out, by rw [hmn]; split <;> omega, by rw [hmn]; split <;> omega, HWD, HSK⟩, by have := HLT.out; simp [intOf]; omega⟩
      · have HSK := Aside0.mk (HSN.out.trans (if_neg hk))
        have HWD := Aside0.mk (HW.out.go ((Fr.refl (fun _ => False) wr).drewN nq))
        have hk2 : (G.kinds.length : Int) ≤ x := by omega
        have hx7 := ((Fr.refl (fun _ => False) wr).drewN nq).cell hx id
        clear hx e0 e1 e2 e3 e4 HW
        go_upto_region 7 with fail
        generalize wr.drewN nq = W2 at HWD hx7 ⊢
        obtain ⟨e0, e1, e2, e3, e4⟩ := HWD.out.cells
        obtain ⟨al, rfl, hy⟩ := Kd.at_int (HWD.out.fr.C (S := fun _ => False) (0 : Int) HL.out (fun _ _ _ => id)) (x - G.kinds.length) (by omega) (by rw [HLN.out]; omega)
        have hb := HB.out (x - G.kinds.length)
        have hwr : IntKind.i64.wrap (x - (G.kinds.length : Int)) = x - G.kinds.length := by rw [i64_w]; simp only [wrap64]; omega
        have ha0 : 0 ≤ x - (G.kinds.length : Int) := by omega
        have ha1 : x - (G.kinds.length : Int) < L.length := by rw [HLN.out]; omega
        have hys := (show (x - (G.kinds.length : Int)).toNat = x.toNat - G.kinds.length by omega)
        rw [hys] at hy
        clear HSN hys
        go_quiet (fail)
        have HWE := Aside0.mk (HWD.out.go ((Fr.refl (fun _ => False) W2).drewN nq))
        clear hy hx7 HWD
        by_cases hn : rd L (x - (G.kinds.length : Int)) < 0
        · have HSM := Aside0.mk (HSK.out.trans (if_pos hn))
          clear HSK
          generalize rd L (x - (G.kinds.length : Int)) = z at hn hb
          go_wp2_with (fail)
          have HFE := Aside0.mk HWE.out.fr
          go_ret
          exact ⟨by rw [HSM.out]; rfl, HFE.out⟩
        · have HSM := Aside0.mk (HSK.out.trans (if_neg hn))
          have hmn := mn_le (p + rd L (x - (G.kinds.length : Int))) 65537
          clear HSK
          generalize rd L (x - (G.kinds.length : Int)) = z at hn hb hmn HSM ⊢
          go_wp2_with (fail)
          exact ⟨⟨i + 1, mn (p + z) 65537, by go_num, congrArg (Value.int .i64) (by rw [hmn]; repeat' split <;> omega), HLT.out, by rw [hmn]; split <;> omega, by rw [hmn]; split <;> omega, HWE, HSM⟩, by have := HLT.out; simp [intOf]; omega⟩
    · obtain rfl : i = row.length := by omega
      have HSE := Aside0.mk (show sizeF G.kinds.length L 0 row = p from by rw [HS.out, List.drop_eq_nil_of_le (Nat.le_refl _)]; rfl)
      have HFE := Aside0.mk HW.out.fr
      clear HS
      go_wp2_with (fail)
      go_ret
      exact ⟨by rw [HSE.out]; rfl, HFE.out⟩
end Go.Proofs.Ytdngobjcdajogaa.Gram
namespace Go.Proofs.Ytdngobjcdajogaa.Gram
open Go.RowKit Go.Proofs.YtdngobjcdajogaaW.PrintWords Go.Proofs.YtdngobjcdajogaaW.PrintLast Go.Proofs.YtdngobjcdajogaaW.PrintMore Go.Proofs.Ytdngobjcdajogaa.Fr Go.Proofs.Ytdngobjcdajogaa.PGramFirsts Go.Proofs.Ytdngobjcdajogaa.TextSet
set_option maxHeartbeats 4000000 in
set_option maxRecDepth 100000 in
theorem refleasts_calls (w : World) (G : Gr) (A0 A1 A2 A3 : Option Addr) (c0 c1 c2 c3 : Nat) (h : GAt w G A0 A1 A2 A3 c0 c1 c2 c3) (hc : CheckOk G) :
    Calls Try.prog 47 #[.agg #[.slice A0 G.kinds.length c0, .slice A1 G.precs.length c1, .slice A2 G.rules.length c2, .slice A3 G.prods.length c3, .int .i64 G.start]] w fun e w' =>
      LeastsPost w G e w' ∧ Fr (fun _ => False) w w' := by
  have hu := Try.underlying26
  have hu2 := Try.underlying57
  have hm3 := Kd.C_max h.prods
  have hR1 := (base_true hc.base).2.1
  have hR2 := (base_true hc.base).2.2.1
  have hQ2 := (base_true hc.base).2.2.2.2.2
  have HG := Aside0.mk h
  have HC := Aside0.mk hc
  have HW := Aside0.mk (show ChkW w (w.alloc (.cells #[.slice A0 G.kinds.length c0, .slice A1 G.precs.length c1, .slice A2 G.rules.length c2, .slice A3 G.prods.length c3, .int .i64 G.start] 26)) G A0 A1 A2 A3 c0 c1 c2 c3 from ⟨blk_new w _, (Fr.refl _ w).alloc _⟩)
  have hws : (w.alloc (.cells #[.slice A0 G.kinds.length c0, .slice A1 G.precs.length c1, .slice A2 G.rules.length c2, .slice A3 G.prods.length c3, .int .i64 G.start] 26)).heap.size = w.heap.size + 1 := by simp only [World.size_alloc]
  clear h hc
  go_enter Try.func47, Try.ntmps47
  go_upto_region 1 with fail
  generalize w.alloc (.cells #[.slice A0 G.kinds.length c0, .slice A1 G.precs.length c1, .slice A2 G.rules.length c2, .slice A3 G.prods.length c3, .int .i64 G.start] 26) = W0 at HW hws ⊢
  obtain ⟨e0, e1, e2, e3, e4⟩ := HW.out.cells
  go_upto_region 2 with (at_make; refine Kd.R_make kI (w0 := W0) W0.heap.size 3 rfl (N := 12) rfl 27 _ _ rfl (G.rules.length : Int) rfl rfl Try.underlying27 (.int .i64 0) 8 info3 rfl (by decide) (by omega) 0 (ok := fun _ => True) (okp := fun _ => True) rfl (fun _ hk => hk) trivial (by omega) (by omega) (Below.refl _ _) (Nat.le_refl _) ?_; intro v1 W1 h1 hB1 hg1 hb1; have HX := Aside0.mk (show NW w W1 G A0 A1 A2 A3 c0 c1 c2 c3 v1 (List.replicate G.rules.length 0) from ⟨HW.out.go (Fr.of_below hB1), by simpa [hws] using h1⟩); clear h1 hB1 hg1)
  obtain ⟨gb, cap, rfl⟩ := ints_form HX.out.row (by simp; exact hR1)
  simp only [List.length_replicate] at HX hb1 ⊢
  clear HW e0 e1 e2 e3 e4
  go_wp2_with (fail)
  go_loopw [4] (fun a W => ∃ (i : Nat) (L : List Int), a = .int .i64 i ∧ i ≤ G.rules.length ∧ Aside0 (NW w W G A0 A1 A2 A3 c0 c1 c2 c3 (.slice (some ⟨gb, 0, none⟩) G.rules.length cap) L) ∧ Aside0 (L.length = G.rules.length ∧ ∀ j : Nat, j < i → rd L (j : Int) = -1)) (fun a _ => G.rules.length - (intOf a).toNat)
  case atStart => exact ⟨0, _, rfl, Nat.zero_le _, HX, ⟨by simp, fun j hj => absurd hj (by omega)⟩⟩
  case round =>
    clear HX
    obtain ⟨i, L, rfl, hi, HX, HL⟩ := hrel
    by_cases hlt : i < G.rules.length
    · have HLT := Aside0.mk hlt
      obtain ⟨hx1, hx2⟩ := HX.out.at HL.out.1 (i := (i : Int)) (by omega) (by omega)
      have HX2 := Aside0.mk (HX.out.put HL.out.1 (i : Int) (-1))
      simp only [Int.toNat_natCast] at hx1 hx2 HX2
      go_wp2_with (fail)
      exact ⟨⟨i + 1, _, by go_num, HLT.out, HX2, ⟨by simp [HL.out.1], fun j hj => by
        have := HL.out.1
        have := HLT.out
        rw [rdI_set (by omega)]
        split
        · rfl
        · exact HL.out.2 j (by omega)⟩⟩, by have := HLT.out; simp [intOf]; omega⟩
    · obtain rfl : i = G.rules.length := by omega
      have HE := Aside0.mk (ends HL.out.1 HL.out.2)
      have HX1 := Aside0.mk (show NW w wr G A0 A1 A2 A3 c0 c1 c2 c3 (.slice (some ⟨gb, 0, none⟩) G.rules.length cap) (List.replicate G.rules.length (-1)) by rw [← HE.out]; exact HX.out)
      have HZ := Aside0.mk (LP.start G)
      have hgz := gap_start G.rules.length
      clear HX HL HE
      go_wp2_with (fail)
      go_loopg [5] (G.rules.length * 65538 + 1) (fun k a W => ∃ (sm : Bool) (L : List Int), a = .bool sm ∧ gapL L + (if sm = true then 1 else 0) ≤ k ∧ Aside0 (NW w W G A0 A1 A2 A3 c0 c1 c2 c3 (.slice (some ⟨gb, 0, none⟩) G.rules.length cap) L) ∧ Aside0 (LP G L) ∧ Aside0 (sm = false → ∀ i, i < G.prods.length → ClosedL G L i))
      case atStart => exact ⟨true, _, rfl, by rw [hgz]; simp, HX1, HZ, ⟨fun h => absurd h (by decide)⟩⟩
      case round =>
        clear HX1 HZ hgz
        obtain ⟨sm, L, rfl, hk, HX, HZ, HCL⟩ := hrel
        cases sm with
        | false =>
          have HE := Aside0.mk (LeastOk.of HZ.out.len HZ.out.bound HZ.out.sound (HCL.out rfl))
          go_wp2_with (fail)
          go_ret
          exact ⟨⟨_, _, rfl, HX.out.row, HE.out⟩, HX.out.chk.fr⟩
        | true =>
          simp only [if_pos] at hk
          obtain ⟨e0, e1, e2, e3, e4⟩ := HX.out.chk.cells
          go_wp2_with (fail)
          go_loopw [6, 5] (fun a b W => ∃ (i : Nat) (sm : Bool) (L' : List Int), a = .int .i64 i ∧ b = .bool sm ∧ i ≤ G.prods.length ∧ gapL L' + (if sm = true then 1 else 0) ≤ gapL L ∧ Aside0 (NW w W G A0 A1 A2 A3 c0 c1 c2 c3 (.slice (some ⟨gb, 0, none⟩) G.rules.length cap) L') ∧ Aside0 (LP G L') ∧ Aside0 (sm = false → ∀ j, j < i → ClosedL G L' j)) (fun a _ _ => G.prods.length - (intOf a).toNat)
          case atStart => exact ⟨0, false, L, rfl, rfl, Nat.zero_le _, by simp, HX, HZ, ⟨fun _ j hj => absurd hj (by omega)⟩⟩
          case round =>
            clear HX HZ HCL e0 e1 e2 e3 e4
            obtain ⟨i, sm, L', rfl, rfl, hi, hf, HX, HZ, HCL⟩ := hrel
            obtain ⟨e0, e1, e2, e3, e4⟩ := HX.out.chk.cells
            by_cases hlt : i < G.prods.length
            · have HLT := Aside0.mk hlt
              obtain ⟨ad, B1, d1, B6, d6, rfl, x0, x1, x2, x3, x4, x5, x6, hl1, hC1, hl6, hC6⟩ := at_T57 HG.out.prods (i : Int) (by omega) (by omega)
              simp only [Int.toNat_natCast] at x0 x1 x2 x3 x4 x5 x6
              have y0 := HX.out.chk.fr.cell x0 id
              have y1 := HX.out.chk.fr.cell x1 id
              have y2 := HX.out.chk.fr.cell x2 id
              have y3 := HX.out.chk.fr.cell x3 id
              have y4 := HX.out.chk.fr.cell x4 id
              have y5 := HX.out.chk.fr.cell x5 id
              have y6 := HX.out.chk.fr.cell x6 id
              have HC1 := Aside0.mk hC1
              have HL1 := Aside0.mk hl1
              have HPI := Aside0.mk (HC.out.prodsOk i hlt)
              clear x0 x1 x2 x3 x4 x5 x6 hC1 hC6 hl6 hl1
              go_upto_region 13 with fail
              have HXA := Aside0.mk (HX.out.go ((Fr.refl (fun _ => False) wr).alloc (.cells #[.int .i64 (rd_T57 G.prods (i : Int)).f0, .slice B1 (rd_T57 G.prods (i : Int)).f1.length d1, .int .i64 (rd_T57 G.prods (i : Int)).f2, .int .i64 (rd_T57 G.prods (i : Int)).f3.f0, .int .i64 (rd_T57 G.prods (i : Int)).f3.f1, .string (rd_T57 G.prods (i : Int)).f3.f2, .slice B6 (rd_T57 G.prods (i : Int)).f3.f3.length d6] 57)))
              have HPB := Aside0.mk (blk_new wr (.cells #[.int .i64 (rd_T57 G.prods (i : Int)).f0, .slice B1 (rd_T57 G.prods (i : Int)).f1.length d1, .int .i64 (rd_T57 G.prods (i : Int)).f2, .int .i64 (rd_T57 G.prods (i : Int)).f3.f0, .int .i64 (rd_T57 G.prods (i : Int)).f3.f1, .string (rd_T57 G.prods (i : Int)).f3.f2, .slice B6 (rd_T57 G.prods (i : Int)).f3.f3.length d6] 57))
              have hgq : gb < wr.heap.size := ((Kd.R_bound HX.out.row).1 gb rfl).2.2.1
              generalize wr.alloc (.cells #[.int .i64 (rd_T57 G.prods (i : Int)).f0, .slice B1 (rd_T57 G.prods (i : Int)).f1.length d1, .int .i64 (rd_T57 G.prods (i : Int)).f2, .int .i64 (rd_T57 G.prods (i : Int)).f3.f0, .int .i64 (rd_T57 G.prods (i : Int)).f3.f1, .string (rd_T57 G.prods (i : Int)).f3.f2, .slice B6 (rd_T57 G.prods (i : Int)).f3.f3.length d6] 57) = W5 at HXA HPB ⊢
              generalize wr.heap.size = q at hgq HPB ⊢
              clear y0 y1 y2 y3 y4 y5 y6 HX e0 e1 e2 e3 e4
              have z1 := (blk_cell HPB.out 1).trans (show _ = some (Value.slice B1 (rd_T57 G.prods (i : Int)).f1.length d1) from rfl)
              obtain ⟨e0, e1, e2, e3, e4⟩ := HXA.out.chk.cells
              have HSC := Aside0.mk (length_calls W5 G A0 A1 A2 (some ad) c0 c1 c2 c3 (HG.out.go HXA.out.chk.fr) (some ⟨gb, 0, none⟩) B1 cap d1 L' (rd_T57 G.prods (i : Int)).f1 HC.out.kinds.max hR2 (by
                obtain ⟨Am, cm, em, hcm, hCm⟩ := Kd.R_reads HXA.out.row
                injection em with em1 em2 em3
                subst em1
                exact hCm) (by
                obtain ⟨Am, cm, em, hcm, hCm⟩ := Kd.R_reads HXA.out.row
                injection em with em1 em2 em3
                subst em3
                exact hcm) (Kd.C_below HC1.out HXA.out.chk.fr.to_below) HL1.out HZ.out.len HZ.out.bound HPI.out.2.2.2 (by have h3 := HPI.out.2.2.1; rw [show rd_T57 G.prods i = rd_T57 G.prods (i : Int) from rfl] at h3; omega))
              rw [HZ.out.len] at HSC
              go_wp2_with (fail)
              refine HSC.out.mono ?_
              rintro e W6 ⟨rfl, hF6⟩
              have HX6 := Aside0.mk (HXA.out.go hF6)
              have HPB6 := Aside0.mk (hF6.blk HPB.out id)
              have h00 := HPI.out.1
              have h01 := HPI.out.2.1
              have HNX := Aside0.mk (fun h1 h2 => HZ.out.next HC.out.prodsOk HLT.out h1 h2)
              have HNC := Aside0.mk (show ¬ (0 ≤ sizeF G.kinds.length L' 0 (rd_T57 G.prods i).f1 ∧ (rd L' (rd_T57 G.prods i).f0 < 0 ∨ sizeF G.kinds.length L' 0 (rd_T57 G.prods i).f1 < rd L' (rd_T57 G.prods i).f0)) → ClosedL G L' i from fun h h0 => ⟨by omega, by omega⟩)
              have HZB := Aside0.mk HZ.out.len
              rw [show rd_T57 G.prods i = rd_T57 G.prods (i : Int) from rfl] at HNX HNC
              obtain ⟨hxl, hfz⟩ := HX6.out.at HZB.out h00 h01
              have z0 := (blk_cell HPB6.out 0).trans (show _ = some (Value.int .i64 (rd_T57 G.prods (i : Int)).f0) from rfl)
              clear HSC HXA HPB z1 hF6 e0 e1 e2 e3 e4
              replace HNX : Aside0 (0 ≤ sizeF G.kinds.length L' 0 (rd_T57 G.prods (i : Int)).f1 → (rd L' (rd_T57 G.prods (i : Int)).f0 < 0 ∨ sizeF G.kinds.length L' 0 (rd_T57 G.prods (i : Int)).f1 < rd L' (rd_T57 G.prods (i : Int)).f0) → LP G (L'.set (rd_T57 G.prods (i : Int)).f0.toNat (sizeF G.kinds.length L' 0 (rd_T57 G.prods (i : Int)).f1)) ∧ gapL (L'.set (rd_T57 G.prods (i : Int)).f0.toNat (sizeF G.kinds.length L' 0 (rd_T57 G.prods (i : Int)).f1)) + 1 ≤ gapL L') := HNX
              generalize sizeF G.kinds.length L' 0 (rd_T57 G.prods (i : Int)).f1 = sz at HNX HNC ⊢
              replace z0 : W6.cell? ⟨q, 0, none⟩ = some (Value.int .i64 (rd_T57 G.prods (i : Int)).f0) := z0
              change 0 ≤ (rd_T57 G.prods (i : Int)).f0 at h00
              change (rd_T57 G.prods (i : Int)).f0 < _ at h01
              replace hxl : W6.cell? ⟨gb, (rd_T57 G.prods (i : Int)).f0.toNat, none⟩ = some (.int .i64 (rd L' (rd_T57 G.prods (i : Int)).f0)) := hxl
              replace hfz : W6.frozen? ⟨gb, (rd_T57 G.prods (i : Int)).f0.toNat, none⟩ = false := hfz
              generalize (rd_T57 G.prods (i : Int)).f0 = lf at h00 h01 HNX HNC hxl hfz z0
              by_cases hc2 : 0 ≤ sz ∧ (rd L' lf < 0 ∨ sz < rd L' lf)
              · obtain ⟨hs0, hs1⟩ := hc2
                obtain ⟨hN1, hN2⟩ := HNX.out hs0 hs1
                have HN1 := Aside0.mk hN1
                have HX7 := Aside0.mk (HX6.out.put HZB.out lf sz)
                have hf7 : gapL (L'.set lf.toNat sz) + (if true = true then 1 else 0) ≤ gapL L := by
                  rw [if_pos rfl]
                  split at hf <;> omega
                clear HNC HNX hN1 hN2
                by_cases hr0 : rd L' lf < 0
                · go_wp2_with (fail)
                  exact ⟨⟨i + 1, true, _, by go_num, rfl, HLT.out, hf7, HX7, HN1, ⟨fun e => absurd e (by decide)⟩⟩, by have := HLT.out; simp [intOf]; omega⟩
                · have hr1 : sz < rd L' lf := hs1.resolve_left hr0
                  go_wp2_with (fail)
                  exact ⟨⟨i + 1, true, _, by go_num, rfl, HLT.out, hf7, HX7, HN1, ⟨fun e => absurd e (by decide)⟩⟩, by have := HLT.out; simp [intOf]; omega⟩
              · have hn2 := HNC.out hc2
                have HCL2 := Aside0.mk (show sm = false → ∀ j, j < i + 1 → ClosedL G L' j from fun e j hj => by
                  by_cases ej : j = i
                  · rw [ej]; exact hn2
                  · exact HCL.out e j (by omega))
                clear HNC HNX hn2
                by_cases hs0 : 0 ≤ sz
                · have hr0 : ¬ rd L' lf < 0 := fun h => hc2 ⟨hs0, .inl h⟩
                  have hr1 : ¬ sz < rd L' lf := fun h => hc2 ⟨hs0, .inr h⟩
                  go_wp2_with (fail)
                  exact ⟨⟨i + 1, sm, _, by go_num, rfl, HLT.out, hf, HX6, HZ, HCL2⟩, by have := HLT.out; simp [intOf]; omega⟩
                · go_wp2_with (fail)
                  exact ⟨⟨i + 1, sm, _, by go_num, rfl, HLT.out, hf, HX6, HZ, HCL2⟩, by have := HLT.out; simp [intOf]; omega⟩
            · obtain rfl : i = G.prods.length := by omega
              go_wp2_with (fail)
              go_roundg (gapL L)
              case measure => omega
              case rel => exact ⟨sm, L', rfl, hf, HX, HZ, HCL⟩
set_option maxHeartbeats 4000000 in
set_option maxRecDepth 100000 in
theorem refleast_calls (w : World) (G : Gr) (A0 A1 A2 A3 : Option Addr) (c0 c1 c2 c3 : Nat) (h : GAt w G A0 A1 A2 A3 c0 c1 c2 c3) (rule : Int) :
    Calls Try.prog 16 #[.agg #[.slice A0 G.kinds.length c0, .slice A1 G.precs.length c1, .slice A2 G.rules.length c2, .slice A3 G.prods.length c3, .int .i64 G.start], .int .i64 rule] w fun e w' =>
      LeastPost G rule e ∧ Fr (fun _ => False) w w' := by
  have hu := Try.underlying26
  have hm2 := Kd.C_max h.rules
  have HG := Aside0.mk h
  have HW := Aside0.mk (show ChkW w (w.alloc (.cells #[.slice A0 G.kinds.length c0, .slice A1 G.precs.length c1, .slice A2 G.rules.length c2, .slice A3 G.prods.length c3, .int .i64 G.start] 26)) G A0 A1 A2 A3 c0 c1 c2 c3 from ⟨blk_new w _, (Fr.refl _ w).alloc _⟩)
  clear h
  go_enter Try.func16, Try.ntmps16
  go_upto_region 1 with fail
  generalize w.alloc (.cells #[.slice A0 G.kinds.length c0, .slice A1 G.precs.length c1, .slice A2 G.rules.length c2, .slice A3 G.prods.length c3, .int .i64 G.start] 26) = W0 at HW ⊢
  obtain ⟨e0, e1, e2, e3, e4⟩ := HW.out.cells
  go_wp2_with (fail)
  refine (refcheck_calls _ G A0 A1 A2 A3 c0 c1 c2 c3 (HG.out.go HW.out.fr)).mono ?_
  rintro e W1 ⟨⟨r, rfl, hr1, hr2⟩, hF⟩
  have HW1 := Aside0.mk (HW.out.go hF)
  clear HW hF e0 e1 e2 e3 e4
  by_cases hr0 : r = 0
  · subst hr0
    have HC := Aside0.mk (hr1.1 rfl)
    clear hr1 hr2
    obtain ⟨e0, e1, e2, e3, e4⟩ := HW1.out.cells
    by_cases x1 : rule < 0
    · have HE := Aside0.mk (show LeastPost G rule (.returned (.tuple #[.int .i64 0, .bool false, .int .i64 1])) from ⟨0, false, 1, rfl, ⟨fun h => absurd h (by decide), fun h => by omega⟩, fun _ => ⟨rfl, rfl, fun _ => rfl, fun h => absurd HC.out h⟩, fun h => absurd h (by decide)⟩)
      go_wp2_with (fail)
      go_ret3
      exact ⟨HE.out, HW1.out.fr⟩
    by_cases x2 : (G.rules.length : Int) ≤ rule
    · have HE := Aside0.mk (show LeastPost G rule (.returned (.tuple #[.int .i64 0, .bool false, .int .i64 1])) from ⟨0, false, 1, rfl, ⟨fun h => absurd h (by decide), fun h => by omega⟩, fun _ => ⟨rfl, rfl, fun _ => rfl, fun h => absurd HC.out h⟩, fun h => absurd h (by decide)⟩)
      go_wp2_with (fail)
      go_ret3
      exact ⟨HE.out, HW1.out.fr⟩
    have h0 : 0 ≤ rule := by omega
    have h1 : rule < G.rules.length := by omega
    go_wp2_with (fail)
    refine (refleasts_calls _ G A0 A1 A2 A3 c0 c1 c2 c3 (HG.out.go HW1.out.fr) HC.out).mono ?_
    rintro e W2 ⟨⟨v, L, rfl, hR, hL⟩, hF⟩
    have HF2 := Aside0.mk (HW1.out.fr.trans hF (fun _ _ h => h))
    have hln := hL.len
    obtain ⟨gb, cap, rfl⟩ := ints_form hR (by omega)
    obtain ⟨Am, cm, em, hcm, hCm⟩ := Kd.R_reads hR
    injection em with em1 em2 em3
    subst em1
    obtain ⟨adm, ea, hxm⟩ := Kd.at_int hCm rule h0 (by omega)
    injection ea with ea
    subst ea
    rw [add_plain] at hxm
    rw [hln]
    have HE := Aside0.mk (show ∀ (n : Int) (sm : Bool), n = mx (rd L rule) 0 → sm = decide (0 ≤ rd L rule) → LeastPost G rule (.returned (.tuple #[.int .i64 n, .bool sm, .int .i64 0])) from fun n sm en es => ⟨n, sm, 0, rfl, ⟨fun _ => ⟨HC.out, h0, h1⟩, fun _ => rfl⟩, fun h => absurd rfl h, fun _ => ⟨L, hL, en, es⟩⟩)
    clear hL hCm hcm em2 em3 hR hF HW1 hln e0 e1 e2 e3 e4
    generalize rd L rule = z at HE hxm
    by_cases hz : 0 ≤ z
    · go_wp2_with (fail)
      go_ret3
      exact ⟨HE.out _ _ (by unfold mx; split <;> omega) (decide_eq_true hz).symm, HF2.out⟩
    · go_wp2_with (fail)
      go_ret3
      exact ⟨HE.out _ _ (by unfold mx; split <;> omega) rfl, HF2.out⟩
  · obtain rfl : r = 130 := hr2.resolve_left hr0
    have HE := Aside0.mk (show LeastPost G rule (.returned (.tuple #[.int .i64 0, .bool false, .int .i64 130])) from ⟨0, false, 130, rfl, ⟨fun h => absurd h hr0, fun h => absurd (hr1.2 h.1) hr0⟩, fun _ => ⟨rfl, rfl, fun h => absurd (hr1.2 h) hr0, fun _ => hr2.resolve_left hr0⟩, fun h => absurd h hr0⟩)
    clear hr1 hr2
    go_wp2_with (fail)
    go_ret3
    exact ⟨HE.out, HW1.out.fr⟩
end Go.Proofs.Ytdngobjcdajogaa.Gram
