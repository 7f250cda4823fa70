/-
The productions by which rules make their least rows: gram.taken, walked.
-/
import Derived.Test.YtdngobjcdajogaaT9QS
import Derived.Test.YtdngobjcdajogaaT9QE
namespace Go.Proofs.Ytdngobjcdajogaa.Gram
open Go.RowKit Go.Proofs.YtdngobjcdajogaaW.PrintWords Go.Proofs.YtdngobjcdajogaaW.PrintLast Go.Proofs.YtdngobjcdajogaaW.PrintMore Go.Proofs.Ytdngobjcdajogaa.Fr Go.Proofs.Ytdngobjcdajogaa.PGramFirsts Go.Proofs.Ytdngobjcdajogaa.TextSet
def negs : List Int → Nat
  | [] => 0
  | v :: l => (if v < 0 then 1 else 0) + negs l
theorem negs_set : ∀ (T : List Int) (i : Nat) (v : Int), i < T.length → rd T (i : Int) < 0 → 0 ≤ v → negs (T.set i v) + 1 = negs T
  | [], i, v, h, _, _ => by simp at h
  | x :: T, 0, v, _, h, hv => by
    have h : x < 0 := by simpa [rd] using h
    simp only [List.set_cons_zero, negs]
    rw [if_pos h, if_neg (by omega)]
    omega
  | x :: T, i + 1, v, h, h2, hv => by
    have h2 : rd T (i : Int) < 0 := by simpa [rd] using h2
    have := negs_set T i v (by simpa using h) h2 hv
    simp only [List.set_cons_succ, negs]
    omega
theorem negs_start (n : Nat) : negs (List.replicate n (-1)) = n := by
  induction n with
  | zero => rfl
  | succ n ih => rw [List.replicate_succ, negs, ih, if_pos (by decide)]; omega
/-- A row of one's own beside the one that is written. -/
theorem R_beside {W : World} {B ga gb ca n : Nat} {AH : List Int} (h : kI.R 3 W B (fun k => k = ga) (.slice (some ⟨ga, 0, none⟩) n ca) AH) (hne : ga ≠ gb) (o : Nat) (u : Value) : kI.R 3 (W.setCell ⟨gb, o, none⟩ u) B (fun k => k = ga) (.slice (some ⟨ga, 0, none⟩) n ca) AH :=
  Kd.R_far h (p := ⟨gb, o, none⟩) (fun k hk => by rw [hk]; exact hne) u
def TakenPost (w : World) (G : Gr) (L : List Int) (e : Ending) (w' : World) : Prop := ∃ v T, e = .returned v ∧ kI.R 3 w' (w.heap.size + 1) (fun _ => True) v T ∧ TP G L T ∧ (∀ i, i < G.prods.length → Shut0 G L T i) ∧ TakX G L T
theorem LeastOk.closed {G : Gr} {L : List Int} (h : LeastOk G L) (hP : ProdsOk G) {i : Nat} (hi : i < G.prods.length) : ClosedL G L i := fun h0 => by
  have hp := hP i hi
  obtain ⟨n, hn, e⟩ := size_sound h.sound _ 0 hp.2.2.2.syms h0
  change sizeF G.kinds.length L 0 _ = _ at e
  rw [Nat.zero_add] at e
  obtain ⟨a, ha⟩ := Int.eq_ofNat_of_zero_le hp.1
  have hz : Siz G [(G.kinds.length + a : Int)] n := by
    have := Siz.rule (G := G) (x := (G.kinds.length : Int) + a) (by omega) hi (by omega) hn .nil
    simpa using this
  have h3 := h.least a n hz
  rw [ha, e]
  exact h3
set_option maxHeartbeats 8000000 in
set_option maxRecDepth 100000 in
theorem taken_calls (w : World) (G : Gr) (A0 A1 A2 A3 LA : Option Addr) (c0 c1 c2 c3 lc : Nat) (h : GAt w G A0 A1 A2 A3 c0 c1 c2 c3) (hc : CheckOk G) (L : List Int) (hL : kI.C w LA L.length L) (hlc : L.length ≤ lc) (hLO : LeastOk G L) :
    Calls Try.prog 49 #[.agg #[.slice A0 G.kinds.length c0, .slice A1 G.precs.length c1, .slice A2 G.rules.length c2, .slice A3 G.prods.length c3, .int .i64 G.start], .slice LA G.rules.length lc] w fun e w' =>
      TakenPost w G L e w' ∧ Fr (fun _ => False) w w' := by
  have hu := Try.underlying26
  have hu2 := Try.underlying57
  have hm3 := Kd.C_max h.prods
  have hR1 := (base_true hc.base).2.1
  have hR2 := (base_true hc.base).2.2.1
  have hQ2 := (base_true hc.base).2.2.2.2.2
  have hK2 := hc.kinds.max
  have HG := Aside0.mk h
  have HC := Aside0.mk hc
  have HL := Aside0.mk hL
  have HLC := Aside0.mk hlc
  have HLO := Aside0.mk hLO
  have HW := Aside0.mk (show ChkW w (w.alloc (.cells #[.slice A0 G.kinds.length c0, .slice A1 G.precs.length c1, .slice A2 G.rules.length c2, .slice A3 G.prods.length c3, .int .i64 G.start] 26)) G A0 A1 A2 A3 c0 c1 c2 c3 from ⟨blk_new w _, (Fr.refl _ w).alloc _⟩)
  have hws : (w.alloc (.cells #[.slice A0 G.kinds.length c0, .slice A1 G.precs.length c1, .slice A2 G.rules.length c2, .slice A3 G.prods.length c3, .int .i64 G.start] 26)).heap.size = w.heap.size + 1 := by simp only [World.size_alloc]
  clear h hc hL hlc hLO
  go_enter Try.func49, Try.ntmps49
  go_upto_region 1 with fail
  generalize w.alloc (.cells #[.slice A0 G.kinds.length c0, .slice A1 G.precs.length c1, .slice A2 G.rules.length c2, .slice A3 G.prods.length c3, .int .i64 G.start] 26) = W0 at HW hws ⊢
  obtain ⟨e0, e1, e2, e3, e4⟩ := HW.out.cells
  go_upto_region 2 with (at_make; refine Kd.R_make kI (w0 := W0) W0.heap.size 3 rfl (N := 18) rfl 27 _ _ rfl (G.rules.length : Int) rfl rfl Try.underlying27 (.int .i64 0) 8 info3 rfl (by decide) (by omega) 0 (ok := fun _ => True) (okp := fun _ => True) rfl (fun _ hk => hk) trivial (by omega) (by omega) (Below.refl _ _) (Nat.le_refl _) ?_; intro v1 W1 h1 hB1 hg1 hb1; have HX := Aside0.mk (show NW w W1 G A0 A1 A2 A3 c0 c1 c2 c3 v1 (List.replicate G.rules.length 0) from ⟨HW.out.go (Fr.of_below hB1), by simpa [hws] using h1⟩); clear h1 hB1 hg1)
  obtain ⟨gb, cap, rfl⟩ := ints_form HX.out.row (by simp; exact hR1)
  simp only [List.length_replicate] at HX hb1 ⊢
  clear HW e0 e1 e2 e3 e4
  go_wp2_with (fail)
  go_loopw [21] (fun a W => ∃ (i : Nat) (T : List Int), a = .int .i64 i ∧ i ≤ G.rules.length ∧ Aside0 (NW w W G A0 A1 A2 A3 c0 c1 c2 c3 (.slice (some ⟨gb, 0, none⟩) G.rules.length cap) T) ∧ Aside0 (T.length = G.rules.length ∧ ∀ j : Nat, j < i → rd T (j : Int) = -1)) (fun a _ => G.rules.length - (intOf a).toNat)
  case atStart => exact ⟨0, _, rfl, Nat.zero_le _, HX, ⟨by simp, fun j hj => absurd hj (by omega)⟩⟩
  case round =>
    clear HX
    obtain ⟨i, T, rfl, hi, HX, HT⟩ := hrel
    by_cases hlt : i < G.rules.length
    · have HLT := Aside0.mk hlt
      obtain ⟨hx1, hx2⟩ := HX.out.at HT.out.1 (i := (i : Int)) (by omega) (by omega)
      have HX2 := Aside0.mk (HX.out.put HT.out.1 (i : Int) (-1))
      simp only [Int.toNat_natCast] at hx1 hx2 HX2
      go_wp2_with (fail)
      exact ⟨⟨i + 1, _, by go_num, HLT.out, HX2, ⟨by simp [HT.out.1], fun j hj => by
        have := HT.out.1
        have := HLT.out
        rw [rdI_set (by omega)]
        split
        · rfl
        · exact HT.out.2 j (by omega)⟩⟩, by have := HLT.out; simp [intOf]; omega⟩
    · obtain rfl : i = G.rules.length := by omega
      have HE := Aside0.mk (ends HT.out.1 HT.out.2)
      have HX1 := Aside0.mk (show NW w wr G A0 A1 A2 A3 c0 c1 c2 c3 (.slice (some ⟨gb, 0, none⟩) G.rules.length cap) (List.replicate G.rules.length (-1)) by rw [← HE.out]; exact HX.out)
      have HZ := Aside0.mk (TP.start G L)
      have hgz := negs_start G.rules.length
      clear HX HT HE
      go_wp2_with (fail)
      go_loopg [7] (G.rules.length + 1) (fun k a W => ∃ (sm : Bool) (T : List Int), a = .bool sm ∧ negs T + (if sm = true then 1 else 0) ≤ k ∧ Aside0 (NW w W G A0 A1 A2 A3 c0 c1 c2 c3 (.slice (some ⟨gb, 0, none⟩) G.rules.length cap) T) ∧ Aside0 (TP G L T) ∧ Aside0 (sm = false → ∀ i, i < G.prods.length → Shut0 G L T i) ∧ Aside0 ((∃ n, iterT G L n = T) ∧ (sm = false → passT G L T G.prods.length = T)))
      case atStart => exact ⟨true, _, rfl, by rw [hgz]; simp, HX1, HZ, ⟨fun h => absurd h (by decide)⟩, ⟨⟨⟨0, rfl⟩, fun h => absurd h (by decide)⟩⟩⟩
      case round =>
        clear HX1 HZ hgz
        obtain ⟨sm, T, rfl, hk, HX, HZ, HCL, HIT⟩ := hrel
        cases sm with
        | false =>
          have HE := Aside0.mk (And.intro (HCL.out rfl) (show TakX G L T from ⟨HIT.out.1, HIT.out.2 rfl⟩))
          go_wp2_with (fail)
          go_ret
          exact ⟨⟨_, _, rfl, HX.out.row, HZ.out, HE.out⟩, HX.out.chk.fr⟩
        | true =>
          simp only [if_pos] at hk
          have HTL := Aside0.mk HZ.out.len
          have hwr0 : w.heap.size + 1 ≤ wr.heap.size := blk_lt HX.out.chk.box
          have hgbw : gb < wr.heap.size := Kd.R_lt HX.out.row gb rfl
          go_wp2_with (fail)
          refine (clone_calls wr gb G.rules.length cap T (by rw [HTL.out]; have := (Kd.R_reads' HX.out.row).2.2; rw [HTL.out] at this; exact this) HTL.out.symm (by rw [HTL.out]; omega)).mono ?_
          rintro e W3 ⟨v8, rfl, hA, hF3⟩
          obtain ⟨ga, ca, rfl⟩ := ints_form hA (by rw [HTL.out]; exact hR1)
          have hga : wr.heap.size ≤ ga := Kd.R_base hA ga rfl
          have hne : ga ≠ gb := by omega
          have HA := Aside0.mk (show kI.R 3 W3 (w.heap.size + 1) (fun k => k = ga) (.slice (some ⟨ga, 0, none⟩) T.length ca) T from Kd.R_mono (Kd.R_tight rfl (Kd.R_lower hA hwr0)) (fun k hk => by injection hk))
          have HX3 := Aside0.mk (HX.out.go hF3)
          rw [HTL.out] at HA ⊢
          clear hA hF3 HX HCL hwr0 hgbw hga
          obtain ⟨e0, e1, e2, e3, e4⟩ := HX3.out.chk.cells
          go_wp2_with (fail)
          go_loopw [34, 7] (fun a b W => ∃ (i : Nat) (sm : Bool) (T' : List Int), a = .int .i64 i ∧ b = .bool sm ∧ i ≤ G.prods.length ∧ negs T' + (if sm = true then 1 else 0) ≤ negs T ∧ Aside0 (NW w W G A0 A1 A2 A3 c0 c1 c2 c3 (.slice (some ⟨gb, 0, none⟩) G.rules.length cap) T') ∧ Aside0 (kI.R 3 W (w.heap.size + 1) (fun k => k = ga) (.slice (some ⟨ga, 0, none⟩) G.rules.length ca) T) ∧ Aside0 (TP G L T') ∧ Aside0 (∀ a : Int, 0 ≤ a → a < G.rules.length → 0 ≤ rd T a → 0 ≤ rd T' a) ∧ Aside0 (sm = false → T' = T ∧ ∀ j, j < i → Shut0 G L T' j) ∧ Aside0 (T' = passT G L T i)) (fun a _ _ => G.prods.length - (intOf a).toNat)
          case atStart => exact ⟨0, false, T, rfl, rfl, Nat.zero_le _, by simp, HX3, HA, HZ, ⟨fun _ _ _ h => h⟩, ⟨fun _ => ⟨rfl, fun j hj => absurd hj (by omega)⟩⟩, ⟨rfl⟩⟩
          case round =>
            clear HX3 HA HZ e0 e1 e2 e3 e4
            obtain ⟨i, sm, T', rfl, rfl, hi, hf, HX, HA, HZ, HUP, HCL, HPX⟩ := hrel
            by_cases hlt : i < G.prods.length
            · have HLT := Aside0.mk hlt
              obtain ⟨ad, B1, d1, B6, d6, rfl, x0, x1, x2, x3, x4, x5, x6, hl1, hC1, hl6, hC6⟩ := at_T57 HG.out.prods (i : Int) (by omega) (by omega)
              simp only [Int.toNat_natCast] at x0 x1 x2 x3 x4 x5 x6
              have y0 := HX.out.chk.fr.cell x0 id
              have y1 := HX.out.chk.fr.cell x1 id
              have y2 := HX.out.chk.fr.cell x2 id
              have y3 := HX.out.chk.fr.cell x3 id
              have y4 := HX.out.chk.fr.cell x4 id
              have y5 := HX.out.chk.fr.cell x5 id
              have y6 := HX.out.chk.fr.cell x6 id
              have HC1 := Aside0.mk hC1
              have HL1 := Aside0.mk hl1
              have HPI := Aside0.mk (HC.out.prodsOk i hlt)
              clear x0 x1 x2 x3 x4 x5 x6 hC1 hC6 hl6 hl1
              go_upto_region 14 with fail
              have HXA := Aside0.mk (HX.out.go ((Fr.refl (fun _ => False) wr).alloc (.cells #[.int .i64 (rd_T57 G.prods (i : Int)).f0, .slice B1 (rd_T57 G.prods (i : Int)).f1.length d1, .int .i64 (rd_T57 G.prods (i : Int)).f2, .int .i64 (rd_T57 G.prods (i : Int)).f3.f0, .int .i64 (rd_T57 G.prods (i : Int)).f3.f1, .string (rd_T57 G.prods (i : Int)).f3.f2, .slice B6 (rd_T57 G.prods (i : Int)).f3.f3.length d6] 57)))
              have HAA := Aside0.mk (Kd.R_alloc HA.out (.cells #[.int .i64 (rd_T57 G.prods (i : Int)).f0, .slice B1 (rd_T57 G.prods (i : Int)).f1.length d1, .int .i64 (rd_T57 G.prods (i : Int)).f2, .int .i64 (rd_T57 G.prods (i : Int)).f3.f0, .int .i64 (rd_T57 G.prods (i : Int)).f3.f1, .string (rd_T57 G.prods (i : Int)).f3.f2, .slice B6 (rd_T57 G.prods (i : Int)).f3.f3.length d6] 57))
              have HPB := Aside0.mk (blk_new wr (.cells #[.int .i64 (rd_T57 G.prods (i : Int)).f0, .slice B1 (rd_T57 G.prods (i : Int)).f1.length d1, .int .i64 (rd_T57 G.prods (i : Int)).f2, .int .i64 (rd_T57 G.prods (i : Int)).f3.f0, .int .i64 (rd_T57 G.prods (i : Int)).f3.f1, .string (rd_T57 G.prods (i : Int)).f3.f2, .slice B6 (rd_T57 G.prods (i : Int)).f3.f3.length d6] 57))
              have hgq : gb < wr.heap.size := ((Kd.R_bound HX.out.row).1 gb rfl).2.2.1
              generalize wr.alloc (.cells #[.int .i64 (rd_T57 G.prods (i : Int)).f0, .slice B1 (rd_T57 G.prods (i : Int)).f1.length d1, .int .i64 (rd_T57 G.prods (i : Int)).f2, .int .i64 (rd_T57 G.prods (i : Int)).f3.f0, .int .i64 (rd_T57 G.prods (i : Int)).f3.f1, .string (rd_T57 G.prods (i : Int)).f3.f2, .slice B6 (rd_T57 G.prods (i : Int)).f3.f3.length d6] 57) = W5 at HXA HPB HAA ⊢
              generalize wr.heap.size = q at hgq HPB ⊢
              clear y0 y1 y2 y3 y4 y5 y6 HX HA
              have hro := HPI.out.2.2.2
              have hrl := HPI.out.2.2.1
              have h00 := HPI.out.1
              have h01 := HPI.out.2.1
              have HNX := Aside0.mk (fun h1 h2 => HZ.out.next HC.out.prodsOk HLT.out h1 h2)
              rw [show rd_T57 G.prods i = rd_T57 G.prods (i : Int) from rfl] at hro hrl h00 h01 HNX
              have HSH := Aside0.mk (show (¬ (rd T' (rd_T57 G.prods (i : Int)).f0 < 0) ∨ ¬ CanT G L T' i) → Shut0 G L T' i from fun h h1 h2 => h.elim (fun h => h h1) (fun h => h h2))
              have HCT := Aside0.mk (show sizeF G.kinds.length L 0 (rd_T57 G.prods (i : Int)).f1 = rd L (rd_T57 G.prods (i : Int)).f0 → (∀ x, x ∈ (rd_T57 G.prods (i : Int)).f1 → ¬ x < G.kinds.length → 0 ≤ rd T' (x - G.kinds.length)) → CanT G L T' i from fun h1 h2 => ⟨h1, h2⟩)
              have HX1 := Aside0.mk (show 0 ≤ rd T' (rd_T57 G.prods (i : Int)).f0 → T' = passT G L T (i + 1) from (passX HPX.out).on)
              have HX2 := Aside0.mk (show sizeF G.kinds.length L 0 (rd_T57 G.prods (i : Int)).f1 ≠ rd L (rd_T57 G.prods (i : Int)).f0 → T' = passT G L T (i + 1) from (passX HPX.out).size)
              have HX3 := Aside0.mk (show (¬ ∀ x, x ∈ (rd_T57 G.prods (i : Int)).f1 → ¬ x < G.kinds.length → 0 ≤ rd T (x - G.kinds.length)) → T' = passT G L T (i + 1) from (passX HPX.out).no)
              have HX4 := Aside0.mk (show rd T' (rd_T57 G.prods (i : Int)).f0 < 0 → sizeF G.kinds.length L 0 (rd_T57 G.prods (i : Int)).f1 = rd L (rd_T57 G.prods (i : Int)).f0 → (∀ x, x ∈ (rd_T57 G.prods (i : Int)).f1 → ¬ x < G.kinds.length → 0 ≤ rd T (x - G.kinds.length)) → T'.set (rd_T57 G.prods (i : Int)).f0.toNat i = passT G L T (i + 1) from (passX HPX.out).yes)
              have HCT1 := Aside0.mk (show CanT G L T' i → sizeF G.kinds.length L 0 (rd_T57 G.prods (i : Int)).f1 = rd L (rd_T57 G.prods (i : Int)).f0 from fun h => h.size)
              have HCT2 := Aside0.mk (show CanT G L T' i → ∀ x, x ∈ (rd_T57 G.prods (i : Int)).f1 → ¬ x < G.kinds.length → 0 ≤ rd T' (x - G.kinds.length) from fun h => h.all)
              have HRO := Aside0.mk hro
              clear hro HPI
              have HNX : Aside0 (rd T' (rd_T57 G.prods (i : Int)).f0 < 0 → CanT G L T' i → TP G L (T'.set (rd_T57 G.prods (i : Int)).f0.toNat i)) := HNX
              change 0 ≤ (rd_T57 G.prods (i : Int)).f0 at h00
              change (rd_T57 G.prods (i : Int)).f0 < _ at h01
              generalize rd_T57 G.prods (i : Int) = pr at HPB HRO hrl h00 h01 HC1 HL1 HNX HSH HCT HCT1 HCT2 HX1 HX2 HX3 HX4 ⊢
              have z0 := (blk_cell HPB.out 0).trans (show _ = some (Value.int .i64 pr.f0) from rfl)
              have z1 := (blk_cell HPB.out 1).trans (show _ = some (Value.slice B1 pr.f1.length d1) from rfl)
              have HZB := Aside0.mk HZ.out.len
              obtain ⟨hxo, hfz⟩ := HXA.out.at HZB.out h00 h01
              obtain ⟨adl, eadl, hxl0⟩ := Kd.at_int HL.out pr.f0 h00 (by rw [HLO.out.len]; exact h01)
              subst eadl
              have hxl := HXA.out.chk.fr.cell hxl0 id
              clear hxl0
              obtain ⟨e0, e1, e2, e3, e4⟩ := HXA.out.chk.cells
              by_cases hon : 0 ≤ rd T' pr.f0
              · have HCL2 := Aside0.mk (show sm = false → T' = T ∧ ∀ j, j < i + 1 → Shut0 G L T' j from fun e => ⟨(HCL.out e).1, fun j hj => by
                  by_cases ej : j = i
                  · rw [ej]; exact HSH.out (.inl (by omega))
                  · exact (HCL.out e).2 j (by omega)⟩)
                have HPX2 := Aside0.mk (HX1.out hon)
                clear HSH HCT HCT1 HCT2 HNX HX1 HX2 HX3 HX4 HPX
                go_wp2_with (fail)
                refine wp_region_held_drew (S := fun w' => w'.cell? ⟨q, 0, none⟩ = some (.int .i64 pr.f0) ∧ w'.cell? ⟨gb, pr.f0.toNat, none⟩ = some (.int .i64 (rd T' pr.f0))) (by kernel_rfl) ⟨by simp only [World.cell?_drew]; exact z0, by simp only [World.cell?_drew]; exact hxo⟩ (fun hHeld => ?_)
                refine wpAnyH_take (i := 0) (oi := ?oa0) (v := ?va0) ?hoa0 (by kernel_rfl) (by kernel_rfl) (by kernel_rfl) ?hqa0 ?hya0 (by assumption) ?resta0
                case hoa0 => (simp only [List.getElem?_toArray, List.getElem?_cons_zero]; rfl)
                case hqa0 => exact fun _ _ _ h => h
                case hya0 => (refine Or.inl ⟨by rfl, ?_⟩; intro w0 hSw; (try dsimp only at hSw); go_simp; try with_reducible rfl)
                try simp only [Act.put, List.setIfInBounds_toArray, List.set_cons_zero, List.set_cons_succ]
                refine wpAnyH_take (i := 1) (oi := ?oa1) (v := ?va1) ?hoa1 (by kernel_rfl) (by kernel_rfl) (by kernel_rfl) ?hqa1 ?hya1 (by assumption) ?resta1
                case hoa1 => (simp only [List.getElem?_toArray, List.getElem?_cons_succ, List.getElem?_cons_zero]; rfl)
                case hqa1 => exact fun _ _ _ h => h
                case hya1 => (refine Or.inl ⟨by rfl, ?_⟩; intro w0 hSw; (try dsimp only at hSw); go_simp; try with_reducible rfl)
                try simp only [Act.put, List.setIfInBounds_toArray, List.set_cons_zero, List.set_cons_succ]
                refine wpAnyH_take (i := 2) (oi := ?oa2) (v := ?va2) ?hoa2 (by kernel_rfl) (by kernel_rfl) (by kernel_rfl) ?hqa2 ?hya2 (by assumption) ?resta2
                case hoa2 => (simp only [List.getElem?_toArray, List.getElem?_cons_succ, List.getElem?_cons_zero]; rfl)
                case hqa2 => exact fun _ _ _ h => h
                case hya2 => (refine Or.inl ⟨by rfl, ?_⟩; intro w0 hSw; (try dsimp only at hSw); go_simp; try with_reducible rfl)
                try simp only [Act.put, List.setIfInBounds_toArray, List.set_cons_zero, List.set_cons_succ]
                refine wpAnyH_take (i := 3) (oi := ?oa3) (v := ?va3) ?hoa3 (by kernel_rfl) (by kernel_rfl) (by kernel_rfl) ?hqa3 ?hya3 (by assumption) ?resta3
                case hoa3 => (simp only [List.getElem?_toArray, List.getElem?_cons_succ, List.getElem?_cons_zero]; rfl)
                case hqa3 => exact fun _ _ _ h => h
                case hya3 => (refine Or.inl ⟨by rfl, ?_⟩; intro w0 hSw; (try dsimp only at hSw); go_simp; try with_reducible rfl)
                try simp only [Act.put, List.setIfInBounds_toArray, List.set_cons_zero, List.set_cons_succ]
                refine wpAnyH_take (i := 4) (oi := ?oa4) (v := ?va4) ?hoa4 (by kernel_rfl) (by kernel_rfl) (by kernel_rfl) ?hqa4 ?hya4 (by assumption) ?resta4
                case hoa4 => (simp only [List.getElem?_toArray, List.getElem?_cons_succ, List.getElem?_cons_zero]; rfl)
                case hqa4 => exact fun _ _ _ h => h
                case hya4 => (refine Or.inl ⟨by rfl, ?_⟩; intro w0 hSw; (try dsimp only at hSw); go_simp; try with_reducible rfl)
                try simp only [Act.put, List.setIfInBounds_toArray, List.set_cons_zero, List.set_cons_succ]
                refine wpAnyH_take (i := 5) (oi := ?oa5) (v := .bool true) ?hoa5 (by kernel_rfl) (by kernel_rfl) (by kernel_rfl) ?hqa5 ?hya5 (by assumption) ?resta5
                case hoa5 => (simp only [List.getElem?_toArray, List.getElem?_cons_succ, List.getElem?_cons_zero]; rfl)
                case hqa5 => exact fun _ _ _ h => h
                case hya5 => (refine Or.inl ⟨by rfl, ?_⟩; intro w0 hSw; (try dsimp only at hSw); go_simp; try with_reducible rfl)
                try simp only [Act.put, List.setIfInBounds_toArray, List.set_cons_zero, List.set_cons_succ]
                refine wpAnyH_take (i := 6) (oi := ?oa6) (v := ?va6) ?hoa6 (by kernel_rfl) (by kernel_rfl) (by kernel_rfl) ?hqa6 ?hya6 (by assumption) ?resta6
                case hoa6 => (simp only [List.getElem?_toArray, List.getElem?_cons_succ, List.getElem?_cons_zero]; rfl)
                case hqa6 => exact fun _ _ _ h => h
                case hya6 => (refine Or.inl ⟨by rfl, ?_⟩; intro w0 hSw; (try dsimp only at hSw); go_simp; try with_reducible rfl)
                try simp only [Act.put, List.setIfInBounds_toArray, List.set_cons_zero, List.set_cons_succ]
                refine wpAnyH_take (i := 7) (oi := ?oa7) (v := undef) ?hoa7 (by kernel_rfl) (by kernel_rfl) (by kernel_rfl) ?hqa7 ?hya7 (by assumption) ?resta7
                case hoa7 => (simp only [List.getElem?_toArray, List.getElem?_cons_succ, List.getElem?_cons_zero]; rfl)
                case hqa7 => exact fun _ _ _ h => h
                case hya7 => exact Or.inr ⟨by rfl, rfl⟩
                try simp only [Act.put, List.setIfInBounds_toArray, List.set_cons_zero, List.set_cons_succ]
                refine wpAnyH_take (i := 8) (oi := ?oa8) (v := undef) ?hoa8 (by kernel_rfl) (by kernel_rfl) (by kernel_rfl) ?hqa8 ?hya8 (by assumption) ?resta8
                case hoa8 => (simp only [List.getElem?_toArray, List.getElem?_cons_succ, List.getElem?_cons_zero]; rfl)
                case hqa8 => exact fun _ _ _ h => h
                case hya8 => exact Or.inr ⟨by rfl, rfl⟩
                try simp only [Act.put, List.setIfInBounds_toArray, List.set_cons_zero, List.set_cons_succ]
                refine wpAnyH_take (i := 9) (oi := ?oa9) (v := undef) ?hoa9 (by kernel_rfl) (by kernel_rfl) (by kernel_rfl) ?hqa9 ?hya9 (by assumption) ?resta9
                case hoa9 => (simp only [List.getElem?_toArray, List.getElem?_cons_succ, List.getElem?_cons_zero]; rfl)
                case hqa9 => exact fun _ _ _ h => h
                case hya9 => exact Or.inr ⟨by rfl, rfl⟩
                try simp only [Act.put, List.setIfInBounds_toArray, List.set_cons_zero, List.set_cons_succ]
                refine wpAnyH_take (i := 10) (oi := ?oa10) (v := undef) ?hoa10 (by kernel_rfl) (by kernel_rfl) (by kernel_rfl) ?hqa10 ?hya10 (by assumption) ?resta10
                case hoa10 => (simp only [List.getElem?_toArray, List.getElem?_cons_succ, List.getElem?_cons_zero]; rfl)
                case hqa10 => exact fun _ _ _ h => h
                case hya10 => exact Or.inr ⟨by rfl, rfl⟩
                try simp only [Act.put, List.setIfInBounds_toArray, List.set_cons_zero, List.set_cons_succ]
                refine wpAnyH_take (i := 12) (oi := ?oa12) (v := undef) ?hoa12 (by kernel_rfl) (by kernel_rfl) (by kernel_rfl) ?hqa12 ?hya12 (by assumption) ?resta12
                case hoa12 => (simp only [List.getElem?_toArray, List.getElem?_cons_succ, List.getElem?_cons_zero]; rfl)
                case hqa12 => exact fun _ _ _ h => h
                case hya12 => exact Or.inr ⟨by rfl, rfl⟩
                try simp only [Act.put, List.setIfInBounds_toArray, List.set_cons_zero, List.set_cons_succ]
                refine wpAnyH_take (i := 13) (oi := ?oa13) (v := undef) ?hoa13 (by kernel_rfl) (by kernel_rfl) (by kernel_rfl) ?hqa13 ?hya13 (by assumption) ?resta13
                case hoa13 => (simp only [List.getElem?_toArray, List.getElem?_cons_succ, List.getElem?_cons_zero]; rfl)
                case hqa13 => exact fun _ _ _ h => h
                case hya13 => exact Or.inr ⟨by rfl, rfl⟩
                try simp only [Act.put, List.setIfInBounds_toArray, List.set_cons_zero, List.set_cons_succ]
                refine wpAnyH_take (i := 14) (oi := ?oa14) (v := undef) ?hoa14 (by kernel_rfl) (by kernel_rfl) (by kernel_rfl) ?hqa14 ?hya14 (by assumption) ?resta14
                case hoa14 => (simp only [List.getElem?_toArray, List.getElem?_cons_succ, List.getElem?_cons_zero]; rfl)
                case hqa14 => exact fun _ _ _ h => h
                case hya14 => exact Or.inr ⟨by rfl, rfl⟩
                try simp only [Act.put, List.setIfInBounds_toArray, List.set_cons_zero, List.set_cons_succ]
                refine wpAnyH_take (i := 15) (oi := ?oa15) (v := undef) ?hoa15 (by kernel_rfl) (by kernel_rfl) (by kernel_rfl) ?hqa15 ?hya15 (by assumption) ?resta15
                case hoa15 => (simp only [List.getElem?_toArray, List.getElem?_cons_succ, List.getElem?_cons_zero]; rfl)
                case hqa15 => exact fun _ _ _ h => h
                case hya15 => exact Or.inr ⟨by rfl, rfl⟩
                try simp only [Act.put, List.setIfInBounds_toArray, List.set_cons_zero, List.set_cons_succ]
                refine wpAnyH_take (i := 16) (oi := ?oa16) (v := undef) ?hoa16 (by kernel_rfl) (by kernel_rfl) (by kernel_rfl) ?hqa16 ?hya16 (by assumption) ?resta16
                case hoa16 => (simp only [List.getElem?_toArray, List.getElem?_cons_succ, List.getElem?_cons_zero]; rfl)
                case hqa16 => exact fun _ _ _ h => h
                case hya16 => exact Or.inr ⟨by rfl, rfl⟩
                try simp only [Act.put, List.setIfInBounds_toArray, List.set_cons_zero, List.set_cons_succ]
                refine wpAnyH_ready (rs := [11]) (by kernel_rfl) (by simp) ?_
                refine AllReadyH.cons (o := ?oa11) ?hoa11 ?hsa11 AllReadyH.nil
                case hoa11 => (simp only [List.getElem?_toArray, List.getElem?_cons_succ, List.getElem?_cons_zero]; rfl)
                intro K hK
                go_simp
                refine hK.out _ _ (by assumption) (fun hHeld => ?_)
                clear hK K
                try simp only [Act.put, List.setIfInBounds_toArray, List.set_cons_zero, List.set_cons_succ]
                refine wpAnyH_take (i := 17) (oi := ?oa17) (v := undef) ?hoa17 (by kernel_rfl) (by kernel_rfl) (by kernel_rfl) ?hqa17 ?hya17 (by assumption) ?resta17
                case hoa17 => (simp only [List.getElem?_toArray, List.getElem?_cons_succ, List.getElem?_cons_zero]; rfl)
                case hqa17 => exact fun _ _ _ h => h
                case hya17 => exact Or.inr ⟨by rfl, rfl⟩
                try simp only [Act.put, List.setIfInBounds_toArray, List.set_cons_zero, List.set_cons_succ]
                refine wpAnyH_take (i := 18) (oi := ?oa18) (v := ?va18) ?hoa18 (by kernel_rfl) (by kernel_rfl) (by kernel_rfl) ?hqa18 ?hya18 (by assumption) ?resta18
                case hoa18 => (simp only [List.getElem?_toArray, List.getElem?_cons_succ, List.getElem?_cons_zero]; rfl)
                case hqa18 => exact fun _ _ _ h => h
                case hya18 => (refine Or.inl ⟨by rfl, ?_⟩; intro w0 hSw; (try dsimp only at hSw); go_simp; try with_reducible rfl)
                try simp only [Act.put, List.setIfInBounds_toArray, List.set_cons_zero, List.set_cons_succ]
                refine wpAnyH_done (by kernel_rfl) ?_ _
                have HX6 := Aside0.mk (HXA.out.go (Fr.refl (fun _ => False) W5).drew)
                have HA6 := Aside0.mk (Kd.R_drew HAA.out)
                go_wp2_with (fail)
                exact ⟨⟨i + 1, sm, T', by go_num, rfl, HLT.out, hf, HX6, HA6, HZ, HUP, HCL2, HPX2⟩, by have := HLT.out; simp [intOf]; omega⟩
              · have HSC := Aside0.mk (fun W (hF : Fr (fun _ => False) W5 W) => size_calls W G A0 A1 A2 (some ad) c0 c1 c2 c3 (HG.out.go (HXA.out.chk.fr.trans hF (fun _ _ h => h))) (some adl) B1 lc d1 L pr.f1 hK2 hR2 (Kd.C_below HL.out (HXA.out.chk.fr.trans hF (fun _ _ h => h)).to_below) HLC.out (Kd.C_below HC1.out (HXA.out.chk.fr.trans hF (fun _ _ h => h)).to_below) HL1.out HLO.out.len HLO.out.bound HRO.out (by omega))
                rw [HLO.out.len] at HSC
                have hneg : rd T' pr.f0 < 0 := by omega
                have hdec : decide ((0 : Int) ≤ rd T' pr.f0) = false := decide_eq_false hon
                generalize hsz : sizeF G.kinds.length L 0 pr.f1 = sz at HSC HCT HCT1 HX2 HX4
                clear hsz
                generalize hlz : rd L pr.f0 = lz at hxl HCT HCT1 HX2 HX4
                clear hlz
                by_cases hse : sz = lz
                · subst hse
                  clear HSH HCT1 HX1 HX2 HPX
                  go_wp2_with (fail)
                  go_region_held3 (fun w' => w'.cell? ⟨w.heap.size, 0, none⟩ = some (.slice A0 G.kinds.length c0) ∧ w'.cell? ⟨w.heap.size, 1, none⟩ = some (.slice A1 G.precs.length c1) ∧ w'.cell? ⟨w.heap.size, 2, none⟩ = some (.slice A2 G.rules.length c2) ∧ w'.cell? ⟨w.heap.size, 3, none⟩ = some (.slice (some ad) G.prods.length c3) ∧ w'.cell? ⟨w.heap.size, 4, none⟩ = some (.int .i64 G.start) ∧ w'.cell? ⟨q, 0, none⟩ = some (.int .i64 pr.f0) ∧ w'.cell? ⟨q, 1, none⟩ = some (.slice B1 pr.f1.length d1) ∧ w'.cell? ⟨gb, pr.f0.toNat, none⟩ = some (.int .i64 (rd T' pr.f0)) ∧ w'.cell? (adl.add pr.f0.toNat) = some (.int .i64 sz)) (go_keep)
                    (first | (go_at_call 68; refine (HSC.out _ ((Fr.refl (fun _ => False) W5).drew)).mono ?_; rintro e W6 ⟨rfl, hF6⟩; have HF6 := Aside0.mk (((Fr.refl (fun _ => False) W5).drew).trans hF6 (fun _ _ hf => hf)); have HPB6 := Aside0.mk (HF6.out.blk HPB.out id); obtain ⟨f0, f1, f2, f3, f4⟩ := (HXA.out.go HF6.out).chk.cells; have u0 := HF6.out.cell z0 id; have u1 := HF6.out.cell z1 id; have uo := HF6.out.cell hxo id; have ul := HF6.out.cell hxl id; clear hF6))
                  have HX6 := Aside0.mk (HXA.out.go HF6.out)
                  have HA6 := Aside0.mk (Kd.R_below HAA.out HF6.out.to_below)
                  clear HXA HAA HPB HSC HF6 z0 z1 hxo hfz hxl e0 e1 e2 e3 e4 f0 f1 f2 f3 f4 uo ul
                  go_wp2_with (fail)
                  clear u0 u1
                  go_loopw [61, 11] (fun a b W => ∃ (t : Nat) (ok : Bool), a = .int .i64 t ∧ b = .bool ok ∧ t ≤ pr.f1.length ∧ Aside0 (NW w W G A0 A1 A2 (some ad) c0 c1 c2 c3 (.slice (some ⟨gb, 0, none⟩) G.rules.length cap) T') ∧ Aside0 (kI.R 3 W (w.heap.size + 1) (fun k => k = ga) (.slice (some ⟨ga, 0, none⟩) G.rules.length ca) T) ∧ Aside0 (W.heap[q]? = some (.cells #[.int .i64 pr.f0, .slice B1 pr.f1.length d1, .int .i64 pr.f2, .int .i64 pr.f3.f0, .int .i64 pr.f3.f1, .string pr.f3.f2, .slice B6 pr.f3.f3.length d6] 57 (0, 0))) ∧ Aside0 (ok = true ↔ ∀ j : Nat, j < t → (G.kinds.length : Int) ≤ rd pr.f1 (j : Int) → 0 ≤ rd T (rd pr.f1 (j : Int) - G.kinds.length))) (fun a _ _ => pr.f1.length - (intOf a).toNat)
                  case atStart => exact ⟨0, true, rfl, rfl, Nat.zero_le _, HX6, HA6, HPB6, ⟨⟨fun _ j hj => absurd hj (by omega), fun _ => rfl⟩⟩⟩
                  case round =>
                    clear HX6 HA6 HPB6
                    obtain ⟨t, ok, rfl, rfl, ht, HX, HA, HPB, HOK⟩ := hrel
                    by_cases htl : t < pr.f1.length
                    · have HTT := Aside0.mk htl
                      obtain ⟨ax, rfl, hx⟩ := Kd.at_int (HX.out.chk.fr.C (S := fun _ => False) (0 : Int) HC1.out (fun _ _ _ => id)) (t : Int) (by omega) (by omega)
                      simp only [Int.toNat_natCast] at hx
                      obtain ⟨hx1, hx2⟩ := HRO.out t htl
                      have HNX2 := Aside0.mk (show ∀ b : Bool, (b = true ↔ (ok = true ∧ ((G.kinds.length : Int) ≤ rd pr.f1 (t : Int) → 0 ≤ rd T (rd pr.f1 (t : Int) - G.kinds.length)))) → (b = true ↔ ∀ j : Nat, j < t + 1 → (G.kinds.length : Int) ≤ rd pr.f1 (j : Int) → 0 ≤ rd T (rd pr.f1 (j : Int) - G.kinds.length)) from fun b hb => by
                        rw [hb, HOK.out]
                        exact ⟨fun h j hj => by
                          by_cases e : j = t
                          · rw [e]; exact h.2
                          · exact h.1 j (by omega), fun h => ⟨fun j hj => h j (by omega), h t (by omega)⟩⟩)
                      generalize rd pr.f1 (t : Int) = x at hx hx1 hx2 HNX2
                      obtain ⟨e0, e1, e2, e3, e4⟩ := HX.out.chk.cells
                      go_wp2_with (fail)
                      refine (isRule_calls _ G A0 A1 A2 (some ad) c0 c1 c2 c3 (HG.out.go HX.out.chk.fr) hK2 x hx1 (by omega)).mono ?_
                      rintro e W7 ⟨rfl, hF7⟩
                      have HX7 := Aside0.mk (HX.out.go hF7)
                      have HA7 := Aside0.mk (Kd.R_below HA.out hF7.to_below)
                      have HPB7 := Aside0.mk (hF7.blk HPB.out id)
                      clear HX HA HPB hF7 e0 e1 e2 e3 e4 hx
                      by_cases hxk : x < G.kinds.length
                      · rw [if_pos hxk]
                        have HOK2 := Aside0.mk (HNX2.out ok ⟨fun h => ⟨h, fun h2 => absurd hxk (by omega)⟩, fun h => h.1⟩)
                        go_wp2_with (fail)
                        exact ⟨⟨t + 1, ok, by go_num, rfl, HTT.out, HX7, HA7, HPB7, HOK2⟩, by have := HTT.out; simp [intOf]; omega⟩
                      · rw [if_neg hxk]
                        have ha0 : 0 ≤ x - G.kinds.length := by omega
                        have ha1 : x - G.kinds.length < G.rules.length := by omega
                        generalize hgx : x - (G.kinds.length : Int) = a at ha0 ha1 HNX2 ⊢
                        clear hgx
                        have hlt2 := HTL.out
                        obtain ⟨adA, eA, hxa⟩ := Kd.at_int (Kd.R_reads' HA7.out).2.2 a ha0 (by rw [hlt2]; exact ha1)
                        injection eA with eA
                        subst eA
                        rw [add_plain] at hxa
                        clear hlt2
                        by_cases hta : rd T a < 0
                        · have HOK2 := Aside0.mk (HNX2.out false ⟨fun h => absurd h (by decide), fun h => absurd (h.2 (by omega)) (by omega)⟩)
                          go_wp2_with (fail)
                          exact ⟨⟨t + 1, false, by go_num, rfl, HTT.out, HX7, HA7, HPB7, HOK2⟩, by have := HTT.out; simp [intOf]; omega⟩
                        · have HOK2 := Aside0.mk (HNX2.out ok ⟨fun h => ⟨h, fun _ => by omega⟩, fun h => h.1⟩)
                          go_wp2_with (fail)
                          exact ⟨⟨t + 1, ok, by go_num, rfl, HTT.out, HX7, HA7, HPB7, HOK2⟩, by have := HTT.out; simp [intOf]; omega⟩
                    · obtain rfl : t = pr.f1.length := by omega
                      cases ok with
                      | true =>
                        have HCAN := Aside0.mk (HCT.out (by first | rfl | trivial) (fun x hx hk => by
                          obtain ⟨j, hj, rfl⟩ := mem_rd hx
                          have hs := HRO.out j hj
                          exact HUP.out _ (by omega) (by omega) (HOK.out.1 rfl j hj (by omega))))
                        have HZ8 := Aside0.mk (HNX.out hneg HCAN.out)
                        have HPX2 := Aside0.mk (HX4.out hneg (by first | rfl | trivial) (fun x hx hk => by
                          obtain ⟨j, hj, rfl⟩ := mem_rd hx
                          exact HOK.out.1 rfl j hj (by omega)))
                        have hng := negs_set T' pr.f0.toNat i (by rw [HZB.out]; omega) (by rw [Int.toNat_of_nonneg h00]; exact hneg) (by omega)
                        have hf8 : negs (T'.set pr.f0.toNat i) + (if true = true then 1 else 0) ≤ negs T := by
                          rw [if_pos rfl]
                          split at hf <;> omega
                        have HX8 := Aside0.mk (HX.out.put HZB.out pr.f0 (i : Int))
                        have HA8 := Aside0.mk (R_beside HA.out hne pr.f0.toNat (.int .i64 (i : Int)))
                        have HUP8 := Aside0.mk (show ∀ a : Int, 0 ≤ a → a < G.rules.length → 0 ≤ rd T a → 0 ≤ rd (T'.set pr.f0.toNat i) a from fun a h0 h1 h2 => by
                          have h3 := HUP.out a h0 h1 h2
                          obtain ⟨b, rfl⟩ := Int.eq_ofNat_of_zero_le h0
                          rw [rdI_set (by rw [HZB.out]; omega)]
                          split
                          · omega
                          · exact h3)
                        obtain ⟨hxo, hfz⟩ := HX.out.at HZB.out h00 h01
                        have u0 := (blk_cell HPB.out 0).trans (show _ = some (Value.int .i64 pr.f0) from rfl)
                        clear HNX HCT hng HX3 HX4
                        go_wp2_with (fail)
                        exact ⟨⟨i + 1, true, _, by go_num, rfl, HLT.out, hf8, HX8, HA8, HZ8, HUP8, ⟨fun e => absurd e (by decide)⟩, HPX2⟩, by have := HLT.out; simp [intOf]; omega⟩
                      | false =>
                        have HCL2 := Aside0.mk (show sm = false → T' = T ∧ ∀ j, j < i + 1 → Shut0 G L T' j from fun e => ⟨(HCL.out e).1, fun j hj => by
                          by_cases ej : j = i
                          · rw [ej]
                            intro _ hcan
                            have h3 := HCT2.out hcan
                            rw [(HCL.out e).1] at h3
                            exact absurd (HOK.out.2 (fun j hj hk => h3 _ (rd_mem hj) (by omega))) (by decide)
                          · exact (HCL.out e).2 j (by omega)⟩)
                        have HPX2 := Aside0.mk (HX3.out (fun hall => absurd (HOK.out.2 (fun j hj hk => hall _ (rd_mem hj) (by omega))) (by decide)))
                        clear HNX HCT HX3 HX4
                        go_wp2_with (fail)
                        exact ⟨⟨i + 1, sm, T', by go_num, rfl, HLT.out, hf, HX, HA, HZ, HUP, HCL2, HPX2⟩, by have := HLT.out; simp [intOf]; omega⟩
                · have HCL2 := Aside0.mk (show sm = false → T' = T ∧ ∀ j, j < i + 1 → Shut0 G L T' j from fun e => ⟨(HCL.out e).1, fun j hj => by
                    by_cases ej : j = i
                    · rw [ej]; exact HSH.out (.inr (fun h => hse (HCT1.out h)))
                    · exact (HCL.out e).2 j (by omega)⟩)
                  have HPX2 := Aside0.mk (HX2.out hse)
                  clear HSH HCT HCT1 HCT2 HNX HX1 HX2 HX3 HX4 HPX
                  go_wp2_with (fail)
                  go_region_held3 (fun w' => w'.cell? ⟨w.heap.size, 0, none⟩ = some (.slice A0 G.kinds.length c0) ∧ w'.cell? ⟨w.heap.size, 1, none⟩ = some (.slice A1 G.precs.length c1) ∧ w'.cell? ⟨w.heap.size, 2, none⟩ = some (.slice A2 G.rules.length c2) ∧ w'.cell? ⟨w.heap.size, 3, none⟩ = some (.slice (some ad) G.prods.length c3) ∧ w'.cell? ⟨w.heap.size, 4, none⟩ = some (.int .i64 G.start) ∧ w'.cell? ⟨q, 0, none⟩ = some (.int .i64 pr.f0) ∧ w'.cell? ⟨q, 1, none⟩ = some (.slice B1 pr.f1.length d1) ∧ w'.cell? ⟨gb, pr.f0.toNat, none⟩ = some (.int .i64 (rd T' pr.f0)) ∧ w'.cell? (adl.add pr.f0.toNat) = some (.int .i64 lz)) (go_keep)
                    (first | (go_at_call 68; refine (HSC.out _ ((Fr.refl (fun _ => False) W5).drew)).mono ?_; rintro e W6 ⟨rfl, hF6⟩; have HF6 := Aside0.mk (((Fr.refl (fun _ => False) W5).drew).trans hF6 (fun _ _ hf => hf)); have HPB6 := Aside0.mk (HF6.out.blk HPB.out id); obtain ⟨f0, f1, f2, f3, f4⟩ := (HXA.out.go HF6.out).chk.cells; have u0 := HF6.out.cell z0 id; have u1 := HF6.out.cell z1 id; have uo := HF6.out.cell hxo id; have ul := HF6.out.cell hxl id; clear hF6))
                  have HX6 := Aside0.mk (HXA.out.go HF6.out)
                  have HA6 := Aside0.mk (Kd.R_below HAA.out HF6.out.to_below)
                  go_wp2_with (fail)
                  exact ⟨⟨i + 1, sm, T', by go_num, rfl, HLT.out, hf, HX6, HA6, HZ, HUP, HCL2, HPX2⟩, by have := HLT.out; simp [intOf]; omega⟩
            · obtain rfl : i = G.prods.length := by omega
              go_wp2_with (fail)
              go_roundg (negs T)
              case measure => omega
              case rel => exact ⟨sm, T', rfl, hf, HX, HZ, ⟨fun e => (HCL.out e).2⟩, ⟨⟨HIT.out.1.elim fun n hn => ⟨n + 1, by show passT G L (iterT G L n) G.prods.length = T'; rw [hn]; exact HPX.out.symm⟩, fun e => by rw [(HCL.out e).1]; exact HPX.out.symm.trans (HCL.out e).1⟩⟩⟩
end Go.Proofs.Ytdngobjcdajogaa.Gram
