/-
Which rules the start leads to, by the document: quoinref12.reached, walked.
-/
import Derived.Test.YtdngobjcdajogaaMAL
set_option linter.unusedSimpArgs false
set_option linter.unusedVariables false
namespace Go.Proofs.Ytdngobjcdajogaa.Gram
open Go.RowKit Go.Proofs.YtdngobjcdajogaaW.PrintWords Go.Proofs.YtdngobjcdajogaaW.PrintLast Go.Proofs.YtdngobjcdajogaaW.PrintMore Go.Proofs.Ytdngobjcdajogaa.Fr Go.Proofs.Ytdngobjcdajogaa.PGramFirsts Go.Proofs.Ytdngobjcdajogaa.TextSet
structure RcM (G : Gr) (may : Nat → Bool) (O : List Bool) : Prop where
 len : O.length = G.rules.length
 snd : ∀ a : Nat, rdOf false O (a : Int) = true → Rch G may a
 start : rdOf false O G.start = true
def ClsR (G : Gr) (may : Nat → Bool) (O : List Bool) (i : Nat) : Prop := rdOf false O (rd_T57 G.prods i).f0 = true → may i = true → ∀ x, x ∈ (rd_T57 G.prods i).f1 → Marked G O x
theorem RcM.begin {G : Gr} (may : Nat → Bool) (h0 : 0 ≤ G.start) (h1 : G.start < G.rules.length) : RcM G may ((List.replicate G.rules.length false).set G.start.toNat true) ∧ ((List.replicate G.rules.length false).set G.start.toNat true).count false + 1 ≤ G.rules.length := by
 obtain ⟨h, h2⟩ := RcSt.begin may h0 h1; exact ⟨⟨h.len, h.snd, h.start⟩, h2⟩
theorem RcM.next {G : Gr} {may : Nat → Bool} {O : List Bool} (h : RcM G may O) {b : Int} (h0 : 0 ≤ b) (h1 : b < G.rules.length) (hr : Rch G may b.toNat) : RcM G may (O.set b.toNat true) := by
 refine ⟨by simp [h.len], fun a ha => ?_, marked_set h.start⟩; rw [rdOf_set (by rw [h.len]; omega)] at ha; split at ha
 · rename_i e
   rw [e]; exact hr
 · exact h.snd a ha
theorem RcM.done {G : Gr} {may : Nat → Bool} {O : List Bool} (h : RcM G may O) (h0 : 0 ≤ G.start) (hc : ∀ i : Nat, i < G.prods.length → ClsR G may O i) : O = reachL G may := by
 have hall : ∀ a : Nat, Rch G may a → rdOf false O (a : Int) = true := fun a ha => by
  induction ha with
  | start => rw [Int.toNat_of_nonneg h0]; exact h.start
  | @next a i x _ hi hf hm hx hk ih =>
   have := hc i hi (by rw [hf]; exact ih) hm x hx hk; rwa [Int.toNat_of_nonneg (by omega)]
 apply List.ext_getElem (by rw [h.len, reachL_length])
 intro a h1 h2; have e1 : rdOf false O (a : Int) = O[a] := by simp [rdOf, List.getD_eq_getElem?_getD, h1]
 have e2 : rdOf false (reachL G may) (a : Int) = (reachL G may)[a] := by simp [rdOf, List.getD_eq_getElem?_getD, h2]
 have h3 : rdOf false O (a : Int) = true ↔ Rch G may a := ⟨h.snd a, hall a⟩; have h4 := reachL_at (may := may) (G := G) (a := a) (by rw [← h.len]; exact h1); rw [e1] at h3; rw [e2] at h4; exact Bool.eq_iff_iff.2 (h3.trans h4.symm)
set_option maxHeartbeats 8000000 in
set_option maxRecDepth 100000 in
theorem refreached_calls (w : World) (G : Gr) (A0 A1 A2 A3 : Option Addr) (c0 c1 c2 c3 : Nat) (h : GAt w G A0 A1 A2 A3 c0 c1 c2 c3) (hc : CheckOk G) (gm mc : Nat) (M : List Bool) (hM : kB.C w (some ⟨gm, 0, none⟩) M.length M) (hML : M.length = G.rules.length) (may : Nat → Bool) (hmay : ∀ i : Nat, may i = wholeF G.kinds.length M true (rd_T57 G.prods i).f1) :
 Calls Try.prog 53 #[.agg #[.slice A0 G.kinds.length c0, .slice A1 G.precs.length c1, .slice A2 G.rules.length c2, .slice A3 G.prods.length c3, .int .i64 G.start], .slice (some ⟨gm, 0, none⟩) G.rules.length mc] w fun e w' =>
  ∃ v, e = .returned v ∧ kB.R 4 w' (w.heap.size + 1) (fun _ => True) v (reachL G may) ∧ Fr (fun _ => False) w w' := by
 have hu := Try.underlying26; have hu2 := Try.underlying57; have hm3 := Kd.C_max h.prods; have hR1 := (base_true hc.base).2.1; have hR2 := (base_true hc.base).2.2.1; have hs0 := (base_true hc.base).2.2.2.1; have hs1 := (base_true hc.base).2.2.2.2.1; have hQ2 := (base_true hc.base).2.2.2.2.2; have hK2 := hc.kinds.max; have HG := Aside0.mk h; have HC := Aside0.mk hc; have HMM := Aside0.mk hM; have HMLN := Aside0.mk hML; have HMAY := Aside0.mk hmay; have HW := Aside0.mk (show ChkW w (w.alloc (.cells #[.slice A0 G.kinds.length c0, .slice A1 G.precs.length c1, .slice A2 G.rules.length c2, .slice A3 G.prods.length c3, .int .i64 G.start] 26)) G A0 A1 A2 A3 c0 c1 c2 c3 from ⟨blk_new w _, (Fr.refl _ w).alloc _⟩); have hws : (w.alloc (.cells #[.slice A0 G.kinds.length c0, .slice A1 G.precs.length c1, .slice A2 G.rules.length c2, .slice A3 G.prods.length c3, .int .i64 G.start] 26)).heap.size = w.heap.size + 1 := by simp only [World.size_alloc]
 clear h hc hM hML hmay; go_enter Try.func53, Try.ntmps53
 go_upto_region 1 with fail
 generalize w.alloc (.cells #[.slice A0 G.kinds.length c0, .slice A1 G.precs.length c1, .slice A2 G.rules.length c2, .slice A3 G.prods.length c3, .int .i64 G.start] 26) = W0 at HW hws ⊢; obtain ⟨e0, e1, e2, e3, e4⟩ := HW.out.cells; go_upto_region 2 with (at_make; refine Kd.R_make kB (w0 := W0) W0.heap.size 4 rfl (N := 14) rfl 36 _ _ rfl (G.rules.length : Int) rfl rfl Try.underlying36 (.bool false) 1 info4 rfl (by decide) (by omega) false (ok := fun _ => True) (okp := fun _ => True) rfl (fun _ hk => hk) trivial (by omega) (by omega) (Below.refl _ _) (Nat.le_refl _) ?_; intro v1 W1 h1 hB1 hg1 hb1; have HX := Aside0.mk (show CW w W1 G A0 A1 A2 A3 c0 c1 c2 c3 v1 (List.replicate G.rules.length false) from ⟨HW.out.go (Fr.of_below hB1), by simpa [hws] using h1⟩); clear h1 hB1 hg1)
 obtain ⟨gb, cap, rfl⟩ := marks_form HX.out.row (by simp; exact hR1); simp only [List.length_replicate] at HX hb1 ⊢; clear HW e0 e1 e2 e3 e4; obtain ⟨e0, e1, e2, e3, e4⟩ := HX.out.chk.cells; obtain ⟨hxm, hfz⟩ := HX.out.at (by simp) hs0 hs1; have HX1 := Aside0.mk (HX.out.mark (by simp) G.start).1; obtain ⟨hZ, hZ2⟩ := RcM.begin may hs0 hs1; have HZ := Aside0.mk hZ; clear HX hZ; go_wp2_with (fail)
 go_loopg [6] (G.rules.length + 1) (fun k a W => ∃ (sm : Bool) (O : List Bool), a = .bool sm ∧ O.count false + (if sm = true then 1 else 0) ≤ k ∧ Aside0 (CW w W G A0 A1 A2 A3 c0 c1 c2 c3 (.slice (some ⟨gb, 0, none⟩) G.rules.length cap) O) ∧ Aside0 (RcM G may O) ∧ Aside0 (sm = false → ∀ i, i < G.prods.length → ClsR G may O i))
 case atStart => exact ⟨true, _, rfl, by rw [if_pos rfl]; omega, HX1, HZ, ⟨fun h => absurd h (by decide)⟩⟩
 case round =>
  clear HX1 HZ hZ2 hxm hfz e0 e1 e2 e3 e4; obtain ⟨sm, O, rfl, hk, HX, HZ, HCL⟩ := hrel; cases sm with
  | false =>
   have HE := Aside0.mk (HZ.out.done hs0 (HCL.out rfl)); have HRE := Aside0.mk (show kB.R 4 wr (w.heap.size + 1) (fun _ => True) (.slice (some ⟨gb, 0, none⟩) G.rules.length cap) (reachL G may) by rw [← HE.out]; exact HX.out.row); go_wp2_with (fail)
   go_ret
   exact ⟨_, rfl, HRE.out, HX.out.chk.fr⟩
  | true =>
   simp only [if_pos] at hk; go_wp2_with (fail)
   go_loopw [7, 6] (fun a b W => ∃ (i : Nat) (sm : Bool) (O' : List Bool), a = .int .i64 i ∧ b = .bool sm ∧ i ≤ G.prods.length ∧ O'.count false + (if sm = true then 1 else 0) ≤ O.count false ∧ Aside0 (CW w W G A0 A1 A2 A3 c0 c1 c2 c3 (.slice (some ⟨gb, 0, none⟩) G.rules.length cap) O') ∧ Aside0 (RcM G may O') ∧ Aside0 (sm = false → ∀ j, j < i → ClsR G may O' j)) (fun a _ _ => G.prods.length - (intOf a).toNat)
   case atStart => exact ⟨0, false, O, rfl, rfl, Nat.zero_le _, by simp, HX, HZ, ⟨fun _ j hj => absurd hj (by omega)⟩⟩
   case round =>
    clear HX HZ HCL; obtain ⟨i, sm, O', rfl, rfl, hi, hf, HX, HZ, HCL⟩ := hrel; obtain ⟨e0, e1, e2, e3, e4⟩ := HX.out.chk.cells; by_cases hlt : i < G.prods.length
    · have HLT := Aside0.mk hlt
      obtain ⟨ad, B1, d1, B6, d6, rfl, x0, x1, x2, x3, x4, x5, x6, hl1, hC1, hl6, hC6⟩ := at_T57 HG.out.prods (i : Int) (by omega) (by omega); simp only [Int.toNat_natCast] at x0 x1 x2 x3 x4 x5 x6; have y0 := HX.out.chk.fr.cell x0 id; have y1 := HX.out.chk.fr.cell x1 id; have y2 := HX.out.chk.fr.cell x2 id; have y3 := HX.out.chk.fr.cell x3 id; have y4 := HX.out.chk.fr.cell x4 id; have y5 := HX.out.chk.fr.cell x5 id; have y6 := HX.out.chk.fr.cell x6 id; have HC1 := Aside0.mk hC1; have HPI := Aside0.mk (HC.out.prodsOk i hlt); have HNR := Aside0.mk (show ∀ (x : Int) (O2 : List Bool), RcM G may O2 → rdOf false O2 (rd_T57 G.prods i).f0 = true → may i = true → x ∈ (rd_T57 G.prods i).f1 → G.kinds.length ≤ x → Rch G may (x - G.kinds.length).toNat from fun x O2 hz hf hm hx hk => by
       have h00 := HPI.out.1; exact Rch.next (hz.snd (rd_T57 G.prods i).f0.toNat (by rw [Int.toNat_of_nonneg h00]; exact hf)) hlt (by omega) hm hx hk)
      have HCI := Aside0.mk (show ∀ (O2 : List Bool), (rdOf false O2 (rd_T57 G.prods i).f0 = true → may i = true → ∀ x, x ∈ (rd_T57 G.prods i).f1 → Marked G O2 x) → ClsR G may O2 i from fun _ h => h); have HMI := Aside0.mk (HMAY.out i); clear x0 x1 x2 x3 x4 x5 x6 hC1 hC6 hl6 hl1; go_upto_region 10 with fail
      have HXA := Aside0.mk (HX.out.go ((Fr.refl (fun _ => False) wr).alloc (.cells #[.int .i64 (rd_T57 G.prods (i : Int)).f0, .slice B1 (rd_T57 G.prods (i : Int)).f1.length d1, .int .i64 (rd_T57 G.prods (i : Int)).f2, .int .i64 (rd_T57 G.prods (i : Int)).f3.f0, .int .i64 (rd_T57 G.prods (i : Int)).f3.f1, .string (rd_T57 G.prods (i : Int)).f3.f2, .slice B6 (rd_T57 G.prods (i : Int)).f3.f3.length d6] 57))); have HPB := Aside0.mk (blk_new wr (.cells #[.int .i64 (rd_T57 G.prods (i : Int)).f0, .slice B1 (rd_T57 G.prods (i : Int)).f1.length d1, .int .i64 (rd_T57 G.prods (i : Int)).f2, .int .i64 (rd_T57 G.prods (i : Int)).f3.f0, .int .i64 (rd_T57 G.prods (i : Int)).f3.f1, .string (rd_T57 G.prods (i : Int)).f3.f2, .slice B6 (rd_T57 G.prods (i : Int)).f3.f3.length d6] 57)); have hgq : gb < wr.heap.size := Kd.R_lt HX.out.row gb rfl; generalize wr.alloc (.cells #[.int .i64 (rd_T57 G.prods (i : Int)).f0, .slice B1 (rd_T57 G.prods (i : Int)).f1.length d1, .int .i64 (rd_T57 G.prods (i : Int)).f2, .int .i64 (rd_T57 G.prods (i : Int)).f3.f0, .int .i64 (rd_T57 G.prods (i : Int)).f3.f1, .string (rd_T57 G.prods (i : Int)).f3.f2, .slice B6 (rd_T57 G.prods (i : Int)).f3.f3.length d6] 57) = W5 at HXA HPB ⊢; generalize wr.heap.size = q at HPB hgq ⊢; clear y0 y1 y2 y3 y4 y5 y6 HX e0 e1 e2 e3 e4; have hro := HPI.out.2.2.2; have hrl := HPI.out.2.2.1; have h00 := HPI.out.1; have h01 := HPI.out.2.1; rw [show rd_T57 G.prods i = rd_T57 G.prods (i : Int) from rfl] at hro hrl h00 h01 HNR HCI HMI; have HRO := Aside0.mk hro; have HNR : Aside0 (∀ (x : Int) (O2 : List Bool), RcM G may O2 → rdOf false O2 (rd_T57 G.prods (i : Int)).f0 = true → may i = true → x ∈ (rd_T57 G.prods (i : Int)).f1 → G.kinds.length ≤ x → Rch G may (x - G.kinds.length).toNat) := HNR; have HCI : Aside0 (∀ (O2 : List Bool), (rdOf false O2 (rd_T57 G.prods (i : Int)).f0 = true → may i = true → ∀ x, x ∈ (rd_T57 G.prods (i : Int)).f1 → Marked G O2 x) → ClsR G may O2 i) := HCI; have HMI : Aside0 (may i = wholeF G.kinds.length M true (rd_T57 G.prods (i : Int)).f1) := HMI; change 0 ≤ (rd_T57 G.prods (i : Int)).f0 at h00
      change (rd_T57 G.prods (i : Int)).f0 < _ at h01
      clear HPI hro; generalize rd_T57 G.prods (i : Int) = pr at HPB HRO hrl h00 h01 HC1 HNR HCI HMI ⊢; have z0 := (blk_cell HPB.out 0).trans (show _ = some (Value.int .i64 pr.f0) from rfl); have z1 := (blk_cell HPB.out 1).trans (show _ = some (Value.slice B1 pr.f1.length d1) from rfl); have HOL := Aside0.mk HZ.out.len; obtain ⟨hxm, hfz⟩ := HXA.out.at HOL.out h00 h01; obtain ⟨e0, e1, e2, e3, e4⟩ := HXA.out.chk.cells; cases hmb : rdOf false O' pr.f0 with
      | false =>
       rw [hmb] at hxm; have HCL2 := Aside0.mk (show sm = false → ∀ j, j < i + 1 → ClsR G may O' j from fun e j hj => by
        by_cases ej : j = i
        · rw [ej]; exact HCI.out O' (fun h => by rw [hmb] at h; cases h)
        · exact HCL.out e j (by omega))
       clear HNR HCI HMI hmb; go_wp2_with (fail)
       exact ⟨⟨i + 1, sm, O', by go_num, rfl, HLT.out, hf, HXA, HZ, HCL2⟩, by have := HLT.out; simp [intOf]; omega⟩
      | true =>
       rw [hmb] at hxm; have HWC := Aside0.mk (refwhole_calls W5 G A0 A1 A2 (some ad) c0 c1 c2 c3 (some ⟨gm, 0, none⟩) B1 mc d1 M pr.f1 hK2 hR2 (Kd.C_below HMM.out HXA.out.chk.fr.to_below) (Kd.C_below HC1.out HXA.out.chk.fr.to_below) HMLN.out HRO.out (by omega)); rw [HMLN.out, ← HMI.out] at HWC; have HMB := Aside0.mk hmb; clear hmb; go_wp2_with (fail)
       refine HWC.out.mono ?_; rintro e W6 ⟨rfl, hF6⟩; have HX6 := Aside0.mk (HXA.out.go hF6); have HP6 := Aside0.mk (hF6.blk HPB.out id); clear HWC HXA HPB hF6 z0 z1 hxm hfz e0 e1 e2 e3 e4; cases hmy : may i with
       | false =>
        have HCL2 := Aside0.mk (show sm = false → ∀ j, j < i + 1 → ClsR G may O' j from fun e j hj => by
         by_cases ej : j = i
         · rw [ej]; exact HCI.out O' (fun _ h => by rw [hmy] at h; cases h)
         · exact HCL.out e j (by omega))
        clear HNR HCI HMI hmy; go_wp2_with (fail)
        exact ⟨⟨i + 1, sm, O', by go_num, rfl, HLT.out, hf, HX6, HZ, HCL2⟩, by have := HLT.out; simp [intOf]; omega⟩
       | true =>
        have HMY := Aside0.mk hmy; clear hmy HMI; go_wp2_with (fail)
        go_loopw [9, 6] (fun a b W => ∃ (t : Nat) (sm : Bool) (O' : List Bool), a = .int .i64 t ∧ b = .bool sm ∧ t ≤ pr.f1.length ∧ O'.count false + (if sm = true then 1 else 0) ≤ O.count false ∧ Aside0 (CW w W G A0 A1 A2 (some ad) c0 c1 c2 c3 (.slice (some ⟨gb, 0, none⟩) G.rules.length cap) O') ∧ Aside0 (RcM G may O') ∧ Aside0 (sm = false → ∀ j, j < i → ClsR G may O' j) ∧ Aside0 (rdOf false O' pr.f0 = true) ∧ Aside0 (∀ x, x ∈ pr.f1.take t → Marked G O' x) ∧ Aside0 (W.heap[q]? = some (.cells #[.int .i64 pr.f0, .slice B1 pr.f1.length d1, .int .i64 pr.f2, .int .i64 pr.f3.f0, .int .i64 pr.f3.f1, .string pr.f3.f2, .slice B6 pr.f3.f3.length d6] 57 (0, 0)))) (fun a _ _ => pr.f1.length - (intOf a).toNat)
        case atStart => exact ⟨0, sm, O', rfl, rfl, Nat.zero_le _, hf, HX6, HZ, HCL, HMB, ⟨fun x hx => by simp at hx⟩, HP6⟩
        case round =>
         clear HX6 HZ HCL HMB HP6 hf HOL; obtain ⟨t, sm, O', rfl, rfl, ht, hf, HX, HZ, HCL, HMB, HTK, HPB⟩ := hrel; have z1 := (blk_cell HPB.out 1).trans (show _ = some (Value.slice B1 pr.f1.length d1) from rfl); by_cases htl : t < pr.f1.length
         · have HTL := Aside0.mk htl
           obtain ⟨ax, rfl, hx⟩ := Kd.at_int (HX.out.chk.fr.C (S := fun _ => False) (0 : Int) HC1.out (fun _ _ _ => id)) (t : Int) (by omega) (by omega); simp only [Int.toNat_natCast] at hx; obtain ⟨hx1, hx2⟩ := HRO.out t htl; have HMX := Aside0.mk (show rd pr.f1 (t : Int) ∈ pr.f1 from rd_mem htl); have HTS := Aside0.mk (show ∀ y, y ∈ pr.f1.take (t + 1) → y ∈ pr.f1.take t ∨ y = rd pr.f1 (t : Int) from fun y hy => by
            rw [List.take_add_one, List.getElem?_eq_getElem htl] at hy; simp only [Option.toList_some, List.mem_append, List.mem_singleton] at hy; rcases hy with hy | hy
            · exact .inl hy
            · exact .inr (by rw [hy]; simp [rd, List.getD_eq_getElem?_getD, htl]))
           generalize rd pr.f1 (t : Int) = x at hx hx1 hx2 HMX HTS; obtain ⟨e0, e1, e2, e3, e4⟩ := HX.out.chk.cells; have hwr : IntKind.i64.wrap (x - (G.kinds.length : Int)) = x - G.kinds.length := by rw [i64_w]; simp only [wrap64]; omega
           go_wp2_with (fail)
           go_quiet (fail)
           have HXD := Aside0.mk (HX.out.go ((Fr.refl (fun _ => False) wr).drewN nq)); have HPD := Aside0.mk (((Fr.refl (fun _ => False) wr).drewN nq).blk HPB.out id); clear HX HPB hx z1 e0 e1 e2 e3 e4 hwr; by_cases hxk : x < G.kinds.length
           · have HT2 := Aside0.mk (show ∀ y, y ∈ pr.f1.take (t + 1) → Marked G O' y from fun y hy => by
              rcases HTS.out y hy with hy | rfl
              · exact HTK.out y hy
              · exact fun h => absurd hxk (by omega))
             have hneg : ¬ (0 ≤ x - (G.kinds.length : Int)) := by omega
             have hdd : decide ((0 : Int) ≤ x - (G.kinds.length : Int)) = false := decide_eq_false hneg; go_wp2_with (fail)
             exact ⟨⟨t + 1, sm, O', by go_num, rfl, HTL.out, hf, HXD, HZ, HCL, HMB, HT2, HPD⟩, by have := HTL.out; simp [intOf]; omega⟩
           · have hk2 : (G.kinds.length : Int) ≤ x := by omega
             have ha0 : 0 ≤ x - (G.kinds.length : Int) := by omega
             have ha1 : x - (G.kinds.length : Int) < G.rules.length := by omega
             have HRX := Aside0.mk (HNR.out x O' HZ.out HMB.out HMY.out HMX.out hk2); have HMK := Aside0.mk (show ∀ marks : List Bool, rdOf false marks (x - G.kinds.length) = true → Marked G marks x from fun _ h _ => h); generalize x - (G.kinds.length : Int) = a at ha0 ha1 HRX HMK ⊢; obtain ⟨hm, hfz⟩ := HXD.out.at HZ.out.len ha0 ha1; cases hma : rdOf false O' a with
             | true =>
              rw [hma] at hm; have HT2 := Aside0.mk (show ∀ y, y ∈ pr.f1.take (t + 1) → Marked G O' y from fun y hy => by
               rcases HTS.out y hy with hy | rfl
               · exact HTK.out y hy
               · exact HMK.out _ hma)
              clear hma; go_wp2_with (fail)
              exact ⟨⟨t + 1, sm, O', by go_num, rfl, HTL.out, hf, HXD, HZ, HCL, HMB, HT2, HPD⟩, by have := HTL.out; simp [intOf]; omega⟩
             | false =>
              rw [hma] at hm; have hsf := set_falses (l := O') (k := a.toNat) (by rw [HZ.out.len]; omega) (by rw [Int.toNat_of_nonneg ha0]; exact hma); have hf8 : (O'.set a.toNat true).count false + (if true = true then 1 else 0) ≤ O.count false := by
               rw [if_pos rfl]; split at hf <;> omega
              have HX8 := Aside0.mk (HXD.out.mark HZ.out.len a).1; have HZ8 := Aside0.mk (HZ.out.next ha0 ha1 HRX.out); have HMB8 := Aside0.mk (show rdOf false (O'.set a.toNat true) pr.f0 = true from marked_set HMB.out); have HT8 := Aside0.mk (show ∀ y, y ∈ pr.f1.take (t + 1) → Marked G (O'.set a.toNat true) y from fun y hy => by
               rcases HTS.out y hy with hy | rfl
               · exact fun h => marked_set (HTK.out y hy h)
               · refine HMK.out _ ?_
                 have := rdOf_set (l := O') (i := a.toNat) (by rw [HZ.out.len]; omega) a.toNat; rwa [if_pos rfl, Int.toNat_of_nonneg ha0] at this)
              have hneq : q ≠ gb := by omega
              have HP8 := Aside0.mk (show ((wr.drewN nq).setCell ⟨gb, a.toNat, none⟩ (.bool true)).heap[q]? = some (.cells #[.int .i64 pr.f0, .slice (some ax) pr.f1.length d1, .int .i64 pr.f2, .int .i64 pr.f3.f0, .int .i64 pr.f3.f1, .string pr.f3.f2, .slice B6 pr.f3.f3.length d6] 57 (0, 0)) from (Below.heap_setCell _ _ _ q hneq).trans HPD.out); clear hma hsf; go_wp2_with (fail)
              exact ⟨⟨t + 1, true, _, by go_num, rfl, HTL.out, hf8, HX8, HZ8, ⟨fun e => absurd e (by decide)⟩, HMB8, HT8, HP8⟩, by have := HTL.out; simp [intOf]; omega⟩
         · obtain rfl : t = pr.f1.length := by omega
           have HCL2 := Aside0.mk (show sm = false → ∀ j, j < i + 1 → ClsR G may O' j from fun e j hj => by
            by_cases ej : j = i
            · rw [ej]; exact HCI.out O' (fun _ _ x hx => HTK.out x (by rw [List.take_length]; exact hx))
            · exact HCL.out e j (by omega))
           go_wp2_with (fail)
           exact ⟨⟨i + 1, sm, O', by go_num, rfl, HLT.out, hf, HX, HZ, HCL2⟩, by have := HLT.out; simp [intOf]; omega⟩
    · obtain rfl : i = G.prods.length := by omega
      go_wp2_with (fail)
      go_roundg (O.count false)
      case measure => omega
      case rel => exact ⟨sm, O', rfl, hf, HX, HZ, HCL⟩
end Go.Proofs.Ytdngobjcdajogaa.Gram
