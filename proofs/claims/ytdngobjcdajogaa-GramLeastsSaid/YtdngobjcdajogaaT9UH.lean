/-
The row of a symbol, and of a rule, by the document: quoinref12.spelled and quoinref12.Row, walked.
-/
import Derived.Test.YtdngobjcdajogaaT9UG
import Derived.Test.YtdngobjcdajogaaT9QV
import Derived.Test.YtdngobjcdajogaaT9UA
import Derived.Test.YtdngobjcdajogaaT9QM
import Derived.Test.YtdngobjcdajogaaT9QO
namespace Go.Proofs.Ytdngobjcdajogaa.Gram
open Go.RowKit Go.Proofs.YtdngobjcdajogaaW.PrintWords Go.Proofs.YtdngobjcdajogaaW.PrintLast Go.Proofs.YtdngobjcdajogaaW.PrintMore Go.Proofs.Ytdngobjcdajogaa.Fr Go.Proofs.Ytdngobjcdajogaa.PGramFirsts Go.Proofs.Ytdngobjcdajogaa.TextSet
set_option maxHeartbeats 4000000 in
set_option maxRecDepth 100000 in
theorem refspelled_calls (G : Gr) (A0 A1 A2 A3 LA TA : Option Addr) (c0 c1 c2 c3 lc tc : Nat) (hK : G.kinds.length ≤ 1024) (hR : G.rules.length ≤ 2048) (hQ : G.prods.length ≤ 4096) (L T : List Int) (hLl : L.length = G.rules.length) (hTl : T.length = G.rules.length) (hP : ProdsOk G) {x : Int} {u : List Int} (hs : SpellS G L T x u) :
    1 ≤ x → x < G.kinds.length + G.rules.length → u.length ≤ 1000000 → ∀ (W : World), GAt W G A0 A1 A2 A3 c0 c1 c2 c3 → kI.C W LA L.length L → kI.C W TA T.length T →
      Calls Try.prog 50 #[.agg #[.slice A0 G.kinds.length c0, .slice A1 G.precs.length c1, .slice A2 G.rules.length c2, .slice A3 G.prods.length c3, .int .i64 G.start], .slice LA G.rules.length lc, .slice TA G.rules.length tc, .int .i64 x] W fun e w' => ∃ v, e = .returned v ∧ kI.R 3 w' W.heap.size (fun _ => True) v u ∧ Fr (fun _ => False) W w' := by
  have hu := Try.underlying26
  have hu2 := Try.underlying57
  have HLL := Aside0.mk hLl
  have HTL := Aside0.mk hTl
  have HPR := Aside0.mk hP
  clear hLl hTl hP
  induction hs with
  | @kind x hk =>
    intro hx1 hx2 _ W hG _ _
    have HB := Aside0.mk (blk_new W (.cells #[.slice A0 G.kinds.length c0, .slice A1 G.precs.length c1, .slice A2 G.rules.length c2, .slice A3 G.prods.length c3, .int .i64 G.start] 26))
    have HF := Aside0.mk ((Fr.refl (fun _ => False) W).alloc (.cells #[.slice A0 G.kinds.length c0, .slice A1 G.precs.length c1, .slice A2 G.rules.length c2, .slice A3 G.prods.length c3, .int .i64 G.start] 26))
    clear hG
    go_enter Try.func50, Try.ntmps50
    go_upto_region 1 with fail
    generalize W.alloc (.cells #[.slice A0 G.kinds.length c0, .slice A1 G.precs.length c1, .slice A2 G.rules.length c2, .slice A3 G.prods.length c3, .int .i64 G.start] 26) = W1 at HB HF ⊢
    have hsz := HF.out.size
    generalize hbb : W.heap.size = b at HB ⊢
    have e0 := (blk_cell HB.out 0).trans (show _ = some (Value.slice A0 G.kinds.length c0) from rfl)
    have HRL := Aside0.mk (show kI.R 3 (W1.alloc (.cells #[.int .i64 x] 3)) W.heap.size (fun _ => True) (.slice (some ⟨W1.heap.size, 0, none⟩) 1 1) [x] from Kd.R_lower (Kd.R_of_own (own_lit_of W1 W1.heap.size 3 [x] (Nat.le_refl _) (by simp)) (fun _ _ => trivial)) hsz)
    have HFE := Aside0.mk (HF.out.alloc (.cells #[.int .i64 x] 3))
    go_wp2_with (fail)
    go_ret
    exact ⟨_, rfl, HRL.out, HFE.out⟩
  | @zero x hk hz =>
    intro hx1 hx2 _ W hG hL _
    have HB := Aside0.mk (blk_new W (.cells #[.slice A0 G.kinds.length c0, .slice A1 G.precs.length c1, .slice A2 G.rules.length c2, .slice A3 G.prods.length c3, .int .i64 G.start] 26))
    have HF := Aside0.mk ((Fr.refl (fun _ => False) W).alloc (.cells #[.slice A0 G.kinds.length c0, .slice A1 G.precs.length c1, .slice A2 G.rules.length c2, .slice A3 G.prods.length c3, .int .i64 G.start] 26))
    have HL := Aside0.mk (Kd.C_below hL HF.out.to_below)
    have ha0 : 0 ≤ x - (G.kinds.length : Int) := by omega
    have ha1 : x - (G.kinds.length : Int) < G.rules.length := by omega
    have hwr : IntKind.i64.wrap (x - (G.kinds.length : Int)) = x - G.kinds.length := by rw [i64_w]; simp only [wrap64]; omega
    clear hG hL
    go_enter Try.func50, Try.ntmps50
    go_upto_region 1 with fail
    generalize W.alloc (.cells #[.slice A0 G.kinds.length c0, .slice A1 G.precs.length c1, .slice A2 G.rules.length c2, .slice A3 G.prods.length c3, .int .i64 G.start] 26) = W1 at HB HF HL ⊢
    generalize hbb : W.heap.size = b at HB ⊢
    have e0 := (blk_cell HB.out 0).trans (show _ = some (Value.slice A0 G.kinds.length c0) from rfl)
    have hll := HLL.out
    obtain ⟨adl, rfl, hxl⟩ := Kd.at_int HL.out (x - G.kinds.length) ha0 (by rw [hll]; exact ha1)
    rw [hz] at hxl
    have hys := (show (x - (G.kinds.length : Int)).toNat = x.toNat - G.kinds.length by omega)
    rw [hys] at hxl
    clear hll hys
    go_wp2_with (fail)
    go_ret
    exact ⟨_, rfl, Kd.R_nil _ _ _ _ _, HF.out⟩
  | @rule x i ws hk hz ht hi hf _ ih =>
    intro hx1 hx2 hul W hG hL hT
    have HB := Aside0.mk (blk_new W (.cells #[.slice A0 G.kinds.length c0, .slice A1 G.precs.length c1, .slice A2 G.rules.length c2, .slice A3 G.prods.length c3, .int .i64 G.start] 26))
    have HF := Aside0.mk ((Fr.refl (fun _ => False) W).alloc (.cells #[.slice A0 G.kinds.length c0, .slice A1 G.precs.length c1, .slice A2 G.rules.length c2, .slice A3 G.prods.length c3, .int .i64 G.start] 26))
    have HG := Aside0.mk (hG.go HF.out)
    have HL := Aside0.mk (Kd.C_below hL HF.out.to_below)
    have HT := Aside0.mk (Kd.C_below hT HF.out.to_below)
    have HUL := Aside0.mk hul
    have ha0 : 0 ≤ x - (G.kinds.length : Int) := by omega
    have ha1 : x - (G.kinds.length : Int) < G.rules.length := by omega
    have hwr : IntKind.i64.wrap (x - (G.kinds.length : Int)) = x - G.kinds.length := by rw [i64_w]; simp only [wrap64]; omega
    clear hG hL hT hul
    go_enter Try.func50, Try.ntmps50
    go_upto_region 1 with fail
    generalize W.alloc (.cells #[.slice A0 G.kinds.length c0, .slice A1 G.precs.length c1, .slice A2 G.rules.length c2, .slice A3 G.prods.length c3, .int .i64 G.start] 26) = W1 at HB HF HG HL HT ⊢
    generalize hbb : W.heap.size = b at HB ⊢
    have e0 := (blk_cell HB.out 0).trans (show _ = some (Value.slice A0 G.kinds.length c0) from rfl)
    have e3 := (blk_cell HB.out 3).trans (show _ = some (Value.slice A3 G.prods.length c3) from rfl)
    have hll := HLL.out
    have htl := HTL.out
    obtain ⟨adl, rfl, hxl⟩ := Kd.at_int HL.out (x - G.kinds.length) ha0 (by rw [hll]; exact ha1)
    obtain ⟨adt, rfl, hxt⟩ := Kd.at_int HT.out (x - G.kinds.length) ha0 (by rw [htl]; exact ha1)
    rw [ht] at hxt
    have hys := (show (x - (G.kinds.length : Int)).toNat = x.toNat - G.kinds.length by omega)
    rw [hys] at hxl hxt
    have hzb : (rd L (x - (G.kinds.length : Int)) == 0) = false := by simp [hz]
    have HRO := Aside0.mk (HPR.out i hi).2.2.2
    have hrl := (HPR.out i hi).2.2.1
    have HIH := Aside0.mk ih
    obtain ⟨ad, B1, d1, B6, d6, rfl, x0, x1, x2, x3, x4, x5, x6, hl1, hC1, _, _⟩ := at_T57 HG.out.prods (i : Int) (by omega) (by omega)
    simp only [Int.toNat_natCast] at x0 x1 x2 x3 x4 x5 x6
    have HC1 := Aside0.mk hC1
    clear ih hys hll htl hC1 ht hf
    generalize rd L (x - (G.kinds.length : Int)) = lv at hxl hz hzb
    rw [show rd_T57 G.prods i = rd_T57 G.prods (i : Int) from rfl] at HRO hrl HIH HUL
    have HUL : Aside0 (((List.range (rd_T57 G.prods (i : Int)).f1.length).flatMap ws).length ≤ 1000000) := HUL
    generalize hrow : rd_T57 G.prods (i : Int) = pr at x0 x1 x2 x3 x4 x5 x6 hl1 HC1 HRO hrl HIH HUL ⊢
    have HROW := Aside0.mk hrow
    clear hrow
    go_wp2_with (fail)
    have HSF7 := Aside0.mk (show ∀ W', Fr (fun _ => False) W1 W' → (fun w' => w'.cell? ⟨b, 3, none⟩ = some (.slice (some ad) G.prods.length c3) ∧ w'.cell? (adt.add (x.toNat - G.kinds.length)) = some (.int .i64 i) ∧ w'.cell? (ad.add (i * 7)) = some (.int .i64 pr.f0) ∧ w'.cell? ⟨(ad.add (i * 7)).block, (ad.add (i * 7)).off + 1, none⟩ = some (.slice B1 pr.f1.length d1) ∧ w'.cell? ⟨(ad.add (i * 7)).block, (ad.add (i * 7)).off + 2, none⟩ = some (.int .i64 pr.f2) ∧ w'.cell? ⟨(ad.add (i * 7)).block, (ad.add (i * 7)).off + 3, none⟩ = some (.int .i64 pr.f3.f0) ∧ w'.cell? ⟨(ad.add (i * 7)).block, (ad.add (i * 7)).off + 4, none⟩ = some (.int .i64 pr.f3.f1) ∧ w'.cell? ⟨(ad.add (i * 7)).block, (ad.add (i * 7)).off + 5, none⟩ = some (.string pr.f3.f2) ∧ w'.cell? ⟨(ad.add (i * 7)).block, (ad.add (i * 7)).off + 6, none⟩ = some (.slice B6 pr.f3.f3.length d6)) W' from fun W' hF => ⟨hF.cell e3 id, hF.cell hxt id, hF.cell x0 id, hF.cell x1 id, hF.cell x2 id, hF.cell x3 id, hF.cell x4 id, hF.cell x5 id, hF.cell x6 id⟩)
    have HFd := Aside0.mk (Fr.refl (fun _ => False) W1).drew
    clear e3 hxt x0 x1 x2 x3 x4 x5 x6
    refine wp_region_last_drew (S := fun w' => w'.cell? ⟨b, 3, none⟩ = some (.slice (some ad) G.prods.length c3) ∧ w'.cell? (adt.add (x.toNat - G.kinds.length)) = some (.int .i64 i) ∧ w'.cell? (ad.add (i * 7)) = some (.int .i64 pr.f0) ∧ w'.cell? ⟨(ad.add (i * 7)).block, (ad.add (i * 7)).off + 1, none⟩ = some (.slice B1 pr.f1.length d1) ∧ w'.cell? ⟨(ad.add (i * 7)).block, (ad.add (i * 7)).off + 2, none⟩ = some (.int .i64 pr.f2) ∧ w'.cell? ⟨(ad.add (i * 7)).block, (ad.add (i * 7)).off + 3, none⟩ = some (.int .i64 pr.f3.f0) ∧ w'.cell? ⟨(ad.add (i * 7)).block, (ad.add (i * 7)).off + 4, none⟩ = some (.int .i64 pr.f3.f1) ∧ w'.cell? ⟨(ad.add (i * 7)).block, (ad.add (i * 7)).off + 5, none⟩ = some (.string pr.f3.f2) ∧ w'.cell? ⟨(ad.add (i * 7)).block, (ad.add (i * 7)).off + 6, none⟩ = some (.slice B6 pr.f3.f3.length d6)) (ds := []) (by kernel_rfl) (HSF7.out _ (Fr.refl (fun _ => False) W1).drew) (fun hHeld => ?_)
    generalize W1.drew = Wd at HFd hHeld ⊢
    refine wpAnyLast_take (i := 0) (oi := ?os0) (v := ?vs0) ?hos0 (by kernel_rfl) (by kernel_rfl) (by kernel_rfl) (by kernel_rfl) (by kernel_rfl) ?hqs0 ?hys0 (by assumption) ?rests0
    case hos0 => (simp only [List.getElem?_toArray, List.getElem?_cons_zero]; rfl)
    case hqs0 => exact fun _ _ _ h => h
    case hys0 => (refine Or.inl ⟨by rfl, ?_⟩; intro w0 hSw; (try dsimp only at hSw); go_simp; try with_reducible rfl)
    try simp only [Act.put, List.setIfInBounds_toArray, List.set_cons_zero, List.set_cons_succ]
    refine wpAnyLast_take (i := 1) (oi := ?os1) (v := ?vs1) ?hos1 (by kernel_rfl) (by kernel_rfl) (by kernel_rfl) (by kernel_rfl) (by kernel_rfl) ?hqs1 ?hys1 (by assumption) ?rests1
    case hos1 => (simp only [List.getElem?_toArray, List.getElem?_cons_succ, List.getElem?_cons_zero]; rfl)
    case hqs1 => exact fun _ _ _ h => h
    case hys1 => (refine Or.inl ⟨by rfl, ?_⟩; intro w0 hSw; (try dsimp only at hSw); go_simp; try with_reducible rfl)
    try simp only [Act.put, List.setIfInBounds_toArray, List.set_cons_zero, List.set_cons_succ]
    refine wpAnyLast_take (i := 2) (oi := ?os2) (v := ?vs2) ?hos2 (by kernel_rfl) (by kernel_rfl) (by kernel_rfl) (by kernel_rfl) (by kernel_rfl) ?hqs2 ?hys2 (by assumption) ?rests2
    case hos2 => (simp only [List.getElem?_toArray, List.getElem?_cons_succ, List.getElem?_cons_zero]; rfl)
    case hqs2 => exact fun _ _ _ h => h
    case hys2 => (refine Or.inl ⟨by rfl, ?_⟩; intro w0 hSw; (try dsimp only at hSw); go_simp; try with_reducible rfl)
    try simp only [Act.put, List.setIfInBounds_toArray, List.set_cons_zero, List.set_cons_succ]
    refine wpAnyLast_take (i := 3) (oi := ?os3) (v := ?vs3) ?hos3 (by kernel_rfl) (by kernel_rfl) (by kernel_rfl) (by kernel_rfl) (by kernel_rfl) ?hqs3 ?hys3 (by assumption) ?rests3
    case hos3 => (simp only [List.getElem?_toArray, List.getElem?_cons_succ, List.getElem?_cons_zero]; rfl)
    case hqs3 => exact fun _ _ _ h => h
    case hys3 => (refine Or.inl ⟨by rfl, ?_⟩; intro w0 hSw; (try dsimp only at hSw); go_simp; try with_reducible rfl)
    try simp only [Act.put, List.setIfInBounds_toArray, List.set_cons_zero, List.set_cons_succ]
    refine wpAnyLast_take (i := 4) (oi := ?os4) (v := ?vs4) ?hos4 (by kernel_rfl) (by kernel_rfl) (by kernel_rfl) (by kernel_rfl) (by kernel_rfl) ?hqs4 ?hys4 (by assumption) ?rests4
    case hos4 => (simp only [List.getElem?_toArray, List.getElem?_cons_succ, List.getElem?_cons_zero]; rfl)
    case hqs4 => exact fun _ _ _ h => h
    case hys4 => (refine Or.inl ⟨by rfl, ?_⟩; intro w0 hSw; (try dsimp only at hSw); go_simp; try with_reducible rfl)
    try simp only [Act.put, List.setIfInBounds_toArray, List.set_cons_zero, List.set_cons_succ]
    refine wpAnyLast_take (i := 5) (oi := ?os5) (v := ?vs5) ?hos5 (by kernel_rfl) (by kernel_rfl) (by kernel_rfl) (by kernel_rfl) (by kernel_rfl) ?hqs5 ?hys5 (by assumption) ?rests5
    case hos5 => (simp only [List.getElem?_toArray, List.getElem?_cons_succ, List.getElem?_cons_zero]; rfl)
    case hqs5 => exact fun _ _ _ h => h
    case hys5 => (refine Or.inl ⟨by rfl, ?_⟩; intro w0 hSw; (try dsimp only at hSw); go_simp; try with_reducible rfl)
    try simp only [Act.put, List.setIfInBounds_toArray, List.set_cons_zero, List.set_cons_succ]
    refine wpAnyLast_take (i := 6) (oi := ?os6) (v := ?vs6) ?hos6 (by kernel_rfl) (by kernel_rfl) (by kernel_rfl) (by kernel_rfl) (by kernel_rfl) ?hqs6 ?hys6 (by assumption) ?rests6
    case hos6 => (simp only [List.getElem?_toArray, List.getElem?_cons_succ, List.getElem?_cons_zero]; rfl)
    case hqs6 => exact fun _ _ _ h => h
    case hys6 => (refine Or.inl ⟨by rfl, ?_⟩; intro w0 hSw; (try dsimp only at hSw); go_simp; try with_reducible rfl)
    try simp only [Act.put, List.setIfInBounds_toArray, List.set_cons_zero, List.set_cons_succ]
    refine wpAnyLast_take (i := 7) (oi := ?os7) (v := ?vs7) ?hos7 (by kernel_rfl) (by kernel_rfl) (by kernel_rfl) (by kernel_rfl) (by kernel_rfl) ?hqs7 ?hys7 (by assumption) ?rests7
    case hos7 => (simp only [List.getElem?_toArray, List.getElem?_cons_succ, List.getElem?_cons_zero]; rfl)
    case hqs7 => exact fun _ _ _ h => h
    case hys7 => (refine Or.inl ⟨by rfl, ?_⟩; intro w0 hSw; (try dsimp only at hSw); go_simp; try with_reducible rfl)
    try simp only [Act.put, List.setIfInBounds_toArray, List.set_cons_zero, List.set_cons_succ]
    refine wpAnyLast_ready (rs := [8]) (by kernel_rfl) (by simp) ?_
    refine AllReadyL.cons (o := ?oq8) ?hoq8 (by decide) ?hsq8 AllReadyL.nil
    case hoq8 => (simp only [List.getElem?_toArray, List.getElem?_cons_succ, List.getElem?_cons_zero]; rfl)
    intro K hK
    go_simp
    have HFa := Aside0.mk (HFd.out.alloc (.cells z7 57))
    have HQa := Aside0.mk (blk_new Wd (.cells z7 57))
    have hlo := HFd.out.size
    refine hK.out _ _ (HSF7.out _ HFa.out) (fun hHeld => ?_)
    clear hK K
    try simp only [Act.put, List.setIfInBounds_toArray, List.set_cons_zero, List.set_cons_succ]
    generalize Wd.alloc (.cells z7 57) = Wa at HFa HQa hHeld ⊢
    generalize Wd.heap.size = q at HQa hlo ⊢
    refine wpAnyLast_ready (rs := [9]) (by kernel_rfl) (by simp) ?_
    refine AllReadyL.cons (o := ?oq9) ?hoq9 (by decide) ?hsq9 AllReadyL.nil
    case hoq9 => (simp only [List.getElem?_toArray, List.getElem?_cons_succ, List.getElem?_cons_zero]; rfl)
    intro K hK
    rw [if_pos (by rfl)]
    refine wp_store_row 57 (.tmp 11) (.tmp 38) rfl _ _ rfl rfl 57 z7 HQa.out info7P rfl (cells7 _ _ _ _ _ _ _ _ _ _ _) ?_
    have HQ5 := Aside0.mk (And.intro (fr_row HFa.out #[.int .i64 pr.f0, .slice B1 pr.f1.length d1, .int .i64 pr.f2, .int .i64 pr.f3.f0, .int .i64 pr.f3.f1, .string pr.f3.f2, .slice B6 pr.f3.f3.length d6] (q := q) (fun h => by omega)) (show (Wa.setRow q #[.int .i64 pr.f0, .slice B1 pr.f1.length d1, .int .i64 pr.f2, .int .i64 pr.f3.f0, .int .i64 pr.f3.f1, .string pr.f3.f2, .slice B6 pr.f3.f3.length d6]).heap[q]? = some (.cells #[.int .i64 pr.f0, .slice B1 pr.f1.length d1, .int .i64 pr.f2, .int .i64 pr.f3.f0, .int .i64 pr.f3.f1, .string pr.f3.f2, .slice B6 pr.f3.f3.length d6] 57 (0, 0)) from setRow_heap _ _ _ _ _ _ HQa.out))
    refine hK.out _ _ (HSF7.out _ HQ5.out.1) (fun hHeld => ?_)
    clear hK K
    try simp only [Act.put, List.setIfInBounds_toArray, List.set_cons_zero, List.set_cons_succ]
    refine wpAnyLast_done (by kernel_rfl) ?_ _
    clear hHeld HSF7 HFd HFa HQa
    generalize Wa.setRow q #[.int .i64 pr.f0, .slice B1 pr.f1.length d1, .int .i64 pr.f2, .int .i64 pr.f3.f0, .int .i64 pr.f3.f1, .string pr.f3.f2, .slice B6 pr.f3.f3.length d6] = W5 at HQ5 ⊢
    have HF5 := Aside0.mk (HF.out.trans HQ5.out.1 (fun _ _ h => h))
    have HB5 := Aside0.mk (HQ5.out.1.blk HB.out id)
    have HP5 := Aside0.mk HQ5.out.2
    have HG5 := Aside0.mk (HG.out.go HQ5.out.1)
    have HL5 := Aside0.mk (Kd.C_below HL.out HQ5.out.1.to_below)
    have HT5 := Aside0.mk (Kd.C_below HT.out HQ5.out.1.to_below)
    have HC5 := Aside0.mk (Kd.C_below HC1.out HQ5.out.1.to_below)
    clear HQ5 HF HB HG HL HT HC1 e0 hxl hwr ha0 ha1 hzb hz
    go_wp2_with (fail)
    go_loopw [12, 10] (fun a q' W' => ∃ (t : Nat), a = .int .i64 t ∧ t ≤ pr.f1.length ∧ Aside0 (Fr (fun _ => False) W5 W') ∧ Aside0 (kI.R 3 W' W5.heap.size (fun _ => True) q' ((List.range t).flatMap ws))) (fun a _ _ => pr.f1.length - (intOf a).toNat)
    case atStart => exact ⟨0, rfl, Nat.zero_le _, ⟨Fr.refl _ _⟩, ⟨Kd.R_nil _ _ _ _ _⟩⟩
    case round =>
      obtain ⟨t, rfl, ht, HFW, HRW⟩ := hrel
      obtain ⟨o, ho⟩ : ∃ o, o = (List.range t).flatMap ws := ⟨_, rfl⟩
      have HO := Aside0.mk ho
      rw [← ho] at HRW
      clear ho
      have z1 := (blk_cell (HFW.out.blk HP5.out id) 1).trans (show _ = some (Value.slice B1 pr.f1.length d1) from rfl)
      by_cases htl : t < pr.f1.length
      · have HTT := Aside0.mk htl
        obtain ⟨ax, rfl, hx⟩ := Kd.at_int HC5.out (t : Int) (by omega) (by omega)
        simp only [Int.toNat_natCast] at hx
        obtain ⟨hy1, hy2⟩ := HRO.out t htl
        have HFL := Aside0.mk (show (ws t).length ≤ 1000000 ∧ o.length + (ws t).length ≤ 1000000 ∧ o ++ ws t = (List.range (t + 1)).flatMap ws from by
          rw [HO.out]
          have h1 := HUL.out
          have h2 := flat_le ws (show t + 1 ≤ pr.f1.length from htl)
          rw [flat_succ, List.length_append] at h2
          exact ⟨by omega, by omega, (flat_succ ws t).symm⟩)
        have HCALL := Aside0.mk (fun W (hF : Fr (fun _ => False) wr W) => HIH.out t htl hy1 hy2 HFL.out.1 W (HG5.out.go (HFW.out.trans hF (fun _ _ h => h))) (Kd.C_below HL5.out (HFW.out.trans hF (fun _ _ h => h)).to_below) (Kd.C_below HT5.out (HFW.out.trans hF (fun _ _ h => h)).to_below))
        generalize rd pr.f1 (t : Int) = y at hx hy1 hy2 HCALL
        obtain ⟨OA, oc, rfl⟩ := Kd.R_slice HRW.out
        go_wp2_with (fail)
        have HSF := Aside0.mk (show ∀ W', Fr (fun _ => False) W5 W' → (fun w' => w'.cell? ⟨b, 0, none⟩ = some (.slice A0 G.kinds.length c0) ∧ w'.cell? ⟨b, 1, none⟩ = some (.slice A1 G.precs.length c1) ∧ w'.cell? ⟨b, 2, none⟩ = some (.slice A2 G.rules.length c2) ∧ w'.cell? ⟨b, 3, none⟩ = some (.slice (some ad) G.prods.length c3) ∧ w'.cell? ⟨b, 4, none⟩ = some (.int .i64 G.start) ∧ w'.cell? ⟨q, 1, none⟩ = some (.slice (some ax) pr.f1.length d1) ∧ w'.cell? (ax.add t) = some (.int .i64 y)) W' from fun W' hF => ⟨(blk_cell (hF.blk HB5.out id) 0).trans rfl, (blk_cell (hF.blk HB5.out id) 1).trans rfl, (blk_cell (hF.blk HB5.out id) 2).trans rfl, (blk_cell (hF.blk HB5.out id) 3).trans rfl, (blk_cell (hF.blk HB5.out id) 4).trans rfl, (blk_cell (hF.blk HP5.out id) 1).trans rfl, hF.cell hx id⟩)
        have HFr0 := Aside0.mk (Fr.refl (fun _ => False) wr).drew
        clear z1 hx
        refine wp_region_last_drew (S := fun w' => w'.cell? ⟨b, 0, none⟩ = some (.slice A0 G.kinds.length c0) ∧ w'.cell? ⟨b, 1, none⟩ = some (.slice A1 G.precs.length c1) ∧ w'.cell? ⟨b, 2, none⟩ = some (.slice A2 G.rules.length c2) ∧ w'.cell? ⟨b, 3, none⟩ = some (.slice (some ad) G.prods.length c3) ∧ w'.cell? ⟨b, 4, none⟩ = some (.int .i64 G.start) ∧ w'.cell? ⟨q, 1, none⟩ = some (.slice (some ax) pr.f1.length d1) ∧ w'.cell? (ax.add t) = some (.int .i64 y)) (ds := []) (by kernel_rfl) (HSF.out _ (HFW.out.trans HFr0.out (fun _ _ h => h))) (fun hHeld => ?_)
        refine wpAnyLast_take (i := 0) (oi := ?or0) (v := ?vr0) ?hor0 (by kernel_rfl) (by kernel_rfl) (by kernel_rfl) (by kernel_rfl) (by kernel_rfl) ?hqr0 ?hyr0 (by assumption) ?restr0
        case hor0 => (simp only [List.getElem?_toArray, List.getElem?_cons_zero]; rfl)
        case hqr0 => exact fun _ _ _ h => h
        case hyr0 => (refine Or.inl ⟨by rfl, ?_⟩; intro w0 hSw; (try dsimp only at hSw); go_simp; try with_reducible rfl)
        try simp only [Act.put, List.setIfInBounds_toArray, List.set_cons_zero, List.set_cons_succ]
        refine wpAnyLast_take (i := 1) (oi := ?or1) (v := ?vr1) ?hor1 (by kernel_rfl) (by kernel_rfl) (by kernel_rfl) (by kernel_rfl) (by kernel_rfl) ?hqr1 ?hyr1 (by assumption) ?restr1
        case hor1 => (simp only [List.getElem?_toArray, List.getElem?_cons_succ, List.getElem?_cons_zero]; rfl)
        case hqr1 => exact fun _ _ _ h => h
        case hyr1 => (refine Or.inl ⟨by rfl, ?_⟩; intro w0 hSw; (try dsimp only at hSw); go_simp; try with_reducible rfl)
        try simp only [Act.put, List.setIfInBounds_toArray, List.set_cons_zero, List.set_cons_succ]
        refine wpAnyLast_take (i := 2) (oi := ?or2) (v := ?vr2) ?hor2 (by kernel_rfl) (by kernel_rfl) (by kernel_rfl) (by kernel_rfl) (by kernel_rfl) ?hqr2 ?hyr2 (by assumption) ?restr2
        case hor2 => (simp only [List.getElem?_toArray, List.getElem?_cons_succ, List.getElem?_cons_zero]; rfl)
        case hqr2 => exact fun _ _ _ h => h
        case hyr2 => (refine Or.inl ⟨by rfl, ?_⟩; intro w0 hSw; (try dsimp only at hSw); go_simp; try with_reducible rfl)
        try simp only [Act.put, List.setIfInBounds_toArray, List.set_cons_zero, List.set_cons_succ]
        refine wpAnyLast_take (i := 3) (oi := ?or3) (v := ?vr3) ?hor3 (by kernel_rfl) (by kernel_rfl) (by kernel_rfl) (by kernel_rfl) (by kernel_rfl) ?hqr3 ?hyr3 (by assumption) ?restr3
        case hor3 => (simp only [List.getElem?_toArray, List.getElem?_cons_succ, List.getElem?_cons_zero]; rfl)
        case hqr3 => exact fun _ _ _ h => h
        case hyr3 => (refine Or.inl ⟨by rfl, ?_⟩; intro w0 hSw; (try dsimp only at hSw); go_simp; try with_reducible rfl)
        try simp only [Act.put, List.setIfInBounds_toArray, List.set_cons_zero, List.set_cons_succ]
        refine wpAnyLast_take (i := 4) (oi := ?or4) (v := ?vr4) ?hor4 (by kernel_rfl) (by kernel_rfl) (by kernel_rfl) (by kernel_rfl) (by kernel_rfl) ?hqr4 ?hyr4 (by assumption) ?restr4
        case hor4 => (simp only [List.getElem?_toArray, List.getElem?_cons_succ, List.getElem?_cons_zero]; rfl)
        case hqr4 => exact fun _ _ _ h => h
        case hyr4 => (refine Or.inl ⟨by rfl, ?_⟩; intro w0 hSw; (try dsimp only at hSw); go_simp; try with_reducible rfl)
        try simp only [Act.put, List.setIfInBounds_toArray, List.set_cons_zero, List.set_cons_succ]
        refine wpAnyLast_take (i := 5) (oi := ?or5) (v := ?vr5) ?hor5 (by kernel_rfl) (by kernel_rfl) (by kernel_rfl) (by kernel_rfl) (by kernel_rfl) ?hqr5 ?hyr5 (by assumption) ?restr5
        case hor5 => (simp only [List.getElem?_toArray, List.getElem?_cons_succ, List.getElem?_cons_zero]; rfl)
        case hqr5 => exact fun _ _ _ h => h
        case hyr5 => (refine Or.inl ⟨by rfl, ?_⟩; intro w0 hSw; (try dsimp only at hSw); go_simp; try with_reducible rfl)
        try simp only [Act.put, List.setIfInBounds_toArray, List.set_cons_zero, List.set_cons_succ]
        refine wpAnyLast_take (i := 6) (oi := ?or6) (v := ?vr6) ?hor6 (by kernel_rfl) (by kernel_rfl) (by kernel_rfl) (by kernel_rfl) (by kernel_rfl) ?hqr6 ?hyr6 (by assumption) ?restr6
        case hor6 => (simp only [List.getElem?_toArray, List.getElem?_cons_succ, List.getElem?_cons_zero]; rfl)
        case hqr6 => exact fun _ _ _ h => h
        case hyr6 => (refine Or.inl ⟨by rfl, ?_⟩; intro w0 hSw; (try dsimp only at hSw); go_simp; try with_reducible rfl)
        try simp only [Act.put, List.setIfInBounds_toArray, List.set_cons_zero, List.set_cons_succ]
        refine wpAnyLast_take (i := 7) (oi := ?or7) (v := ?vr7) ?hor7 (by kernel_rfl) (by kernel_rfl) (by kernel_rfl) (by kernel_rfl) (by kernel_rfl) ?hqr7 ?hyr7 (by assumption) ?restr7
        case hor7 => (simp only [List.getElem?_toArray, List.getElem?_cons_succ, List.getElem?_cons_zero]; rfl)
        case hqr7 => exact fun _ _ _ h => h
        case hyr7 => (refine Or.inl ⟨by rfl, ?_⟩; intro w0 hSw; (try dsimp only at hSw); go_simp; try with_reducible rfl)
        try simp only [Act.put, List.setIfInBounds_toArray, List.set_cons_zero, List.set_cons_succ]
        refine wpAnyLast_take (i := 8) (oi := ?or8) (v := ?vr8) ?hor8 (by kernel_rfl) (by kernel_rfl) (by kernel_rfl) (by kernel_rfl) (by kernel_rfl) ?hqr8 ?hyr8 (by assumption) ?restr8
        case hor8 => (simp only [List.getElem?_toArray, List.getElem?_cons_succ, List.getElem?_cons_zero]; rfl)
        case hqr8 => exact fun _ _ _ h => h
        case hyr8 => (refine Or.inl ⟨by rfl, ?_⟩; intro w0 hSw; (try dsimp only at hSw); go_simp; try with_reducible rfl)
        try simp only [Act.put, List.setIfInBounds_toArray, List.set_cons_zero, List.set_cons_succ]
        refine wpAnyLast_ready (rs := [9]) (by kernel_rfl) (by simp) ?_
        refine AllReadyL.cons (o := ?or9) ?hor9 (by decide) ?hsr9 AllReadyL.nil
        case hor9 => (simp only [List.getElem?_toArray, List.getElem?_cons_succ, List.getElem?_cons_zero]; rfl)
        intro K hK
        go_simp
        refine (HCALL.out _ HFr0.out).mono ?_
        rintro e W7 ⟨v7, rfl, hR7, hF7⟩
        obtain ⟨CA, cc, rfl⟩ := Kd.R_slice hR7
        have HF7 := Aside0.mk (HFr0.out.trans hF7 (fun _ _ h => h))
        have HC7 := Aside0.mk ((Kd.R_reads' hR7).2.2)
        clear hR7 hF7
        refine hK.out _ _ (HSF.out _ (HFW.out.trans HF7.out (fun _ _ h => h))) (fun hHeld => ?_)
        clear hK K
        try simp only [Act.put, List.setIfInBounds_toArray, List.set_cons_zero, List.set_cons_succ]
        refine wpAnyLast_ready (rs := [10]) (by kernel_rfl) (by simp) ?_
        refine AllReadyL.cons (o := ?or10) ?hor10 (by decide) ?hsr10 AllReadyL.nil
        case hor10 => (simp only [List.getElem?_toArray, List.getElem?_cons_succ, List.getElem?_cons_zero]; rfl)
        intro K hK
        have HRW7 := Aside0.mk (Kd.R_below HRW.out HF7.out.to_below)
        have hbw := (HFW.out.trans HF7.out (fun _ _ h => h)).size
        refine Kd.R_append_rows_step kI (w0 := W7) (W := W7) W5.heap.size (by rfl) (.tmp 46) (.tmp 55) 27 3 (.int .i64 0) 8 rfl Try.underlying27 info3 rfl (by decide) (by omega) _ o (ws t) _ _ _ (fun _ => True) (fun _ => False) rfl rfl HRW7.out HC7.out (fun _ _ h => h) (fun _ h => h.elim) (fun _ _ => trivial) (Below.refl _ _) hbw (by have := HFL.out; omega) ?_
        intro v8 W8 h8 hb8 hg8 hat8
        have HFW8 := Aside0.mk (show Fr (fun _ => False) W5 W8 from (HFW.out.trans HF7.out (fun _ _ h => h)).trans (T := fun k => W5.heap.size ≤ k) ⟨hg8.os, hg8.tape, hg8.output, hg8.size, fun i hi hn => hg8.block i hi (fun e => hn (Kd.R_base HRW7.out i e.symm))⟩ (fun k hk e => by omega))
        have HRW8 := Aside0.mk (show kI.R 3 W8 W5.heap.size (fun _ => True) v8 ((List.range (t + 1)).flatMap ws) by rw [← HFL.out.2.2]; exact h8)
        clear h8 hb8 hg8 hat8
        refine hK.out _ _ (HSF.out _ HFW8.out) (fun hHeld => ?_)
        clear hK K
        try simp only [Act.put, List.setIfInBounds_toArray, List.set_cons_zero, List.set_cons_succ]
        refine wpAnyLast_take (i := 11) (oi := ?or11) (v := ?vr11) ?hor11 (by kernel_rfl) (by kernel_rfl) (by kernel_rfl) (by kernel_rfl) (by kernel_rfl) ?hqr11 ?hyr11 (by assumption) ?restr11
        case hor11 => (simp only [List.getElem?_toArray, List.getElem?_cons_succ, List.getElem?_cons_zero]; rfl)
        case hqr11 => exact fun _ _ _ h => h
        case hyr11 => (refine Or.inl ⟨by rfl, ?_⟩; intro w0 hSw; (try dsimp only at hSw); go_simp; try with_reducible rfl)
        try simp only [Act.put, List.setIfInBounds_toArray, List.set_cons_zero, List.set_cons_succ]
        refine wpAnyLast_done (by kernel_rfl) ?_ _
        go_wp2_with (fail)
        exact ⟨⟨t + 1, by go_num, HTT.out, HFW8, HRW8⟩, by have := HTT.out; simp [intOf]; omega⟩
      · obtain rfl : t = pr.f1.length := by omega
        have HFE := Aside0.mk (HF5.out.trans HFW.out (fun _ _ h => h))
        have HRE := Aside0.mk (show kI.R 3 wr W.heap.size (fun _ => True) _ ((List.range (rd_T57 G.prods i).f1.length).flatMap ws) by rw [show rd_T57 G.prods i = pr from HROW.out]; rw [← HO.out]; exact Kd.R_lower HRW.out (show W.heap.size ≤ W5.heap.size from HF5.out.size))
        go_wp2_with (fail)
        go_ret
        exact ⟨_, rfl, HRE.out, HFE.out⟩
theorem least_uniq {G : Gr} {L L' : List Int} (h : LeastOk G L) (h' : LeastOk G L') : L = L' := by
  apply List.ext_getElem (by rw [h.len, h'.len])
  intro a h1 h2
  have := least_same h h' (a := a) (by rw [← h.len]; exact h1)
  simpa [rd, List.getD_eq_getElem?_getD, h1, h2] using this
def RefRowPost (w : World) (G : Gr) (rule : Int) (l : List Int) (e : Ending) (w' : World) : Prop :=
  ∃ v r l', e = .returned (.tuple #[v, .int .i64 r]) ∧ kI.R 3 w' w.heap.size (fun _ => True) v l' ∧
    ((¬ (CheckOk G ∧ 0 ≤ rule ∧ rule < G.rules.length) ∧ l' = [] ∧ (CheckOk G → r = 1) ∧ (¬ CheckOk G → r = 130)) ∨ ((CheckOk G ∧ 0 ≤ rule ∧ rule < G.rules.length) ∧ ∃ L, LeastOk G L ∧ (rd L rule < 0 → r = 8 ∧ l' = []) ∧ (65536 < rd L rule → r = 3 ∧ l' = []) ∧ (0 ≤ rd L rule → rd L rule ≤ 65536 → r = 0 ∧ l' = l)))
set_option maxHeartbeats 4000000 in
set_option maxRecDepth 100000 in
theorem refrow_calls (w : World) (G : Gr) (A0 A1 A2 A3 : Option Addr) (c0 c1 c2 c3 : Nat) (h : GAt w G A0 A1 A2 A3 c0 c1 c2 c3) (rule : Int) (l : List Int)
    (hy : ∀ L, LeastOk G L → CheckOk G → 0 ≤ rule → rule < G.rules.length → 0 ≤ rd L rule → rd L rule ≤ 65536 → ∃ T, TakX G L T ∧ SpellS G L T (G.kinds.length + rule) l ∧ l.length ≤ 65536) :
    Calls Try.prog 18 #[.agg #[.slice A0 G.kinds.length c0, .slice A1 G.precs.length c1, .slice A2 G.rules.length c2, .slice A3 G.prods.length c3, .int .i64 G.start], .int .i64 rule] w fun e w' => RefRowPost w G rule l e w' ∧ Fr (fun _ => False) w w' := by
  have hu := Try.underlying26
  have HG := Aside0.mk h
  have HY := Aside0.mk hy
  have HW := Aside0.mk (show ChkW w (w.alloc (.cells #[.slice A0 G.kinds.length c0, .slice A1 G.precs.length c1, .slice A2 G.rules.length c2, .slice A3 G.prods.length c3, .int .i64 G.start] 26)) G A0 A1 A2 A3 c0 c1 c2 c3 from ⟨blk_new w _, (Fr.refl _ w).alloc _⟩)
  clear h hy
  go_enter Try.func18, Try.ntmps18
  go_upto_region 1 with fail
  generalize w.alloc (.cells #[.slice A0 G.kinds.length c0, .slice A1 G.precs.length c1, .slice A2 G.rules.length c2, .slice A3 G.prods.length c3, .int .i64 G.start] 26) = W0 at HW ⊢
  obtain ⟨e0, e1, e2, e3, e4⟩ := HW.out.cells
  go_wp2_with (fail)
  refine (refleast_calls W0 G A0 A1 A2 A3 c0 c1 c2 c3 (HG.out.go HW.out.fr) rule).mono ?_
  rintro e W1 ⟨⟨n, sm, r, rfl, h1, h2, h3⟩, hF⟩
  have HW1 := Aside0.mk (HW.out.go hF)
  clear HW hF e0 e1 e2 e3 e4
  by_cases hr0 : r = 0
  · subst hr0
    obtain ⟨hck, hp0, hp1⟩ := h1.1 rfl
    obtain ⟨L, hL, hn, hs⟩ := h3 rfl
    have HC := Aside0.mk hck
    have HL := Aside0.mk hL
    have hb := hL.bound rule
    have HYL := Aside0.mk (HY.out L hL hck hp0 hp1)
    have HTO := Aside0.mk (show ∀ (v : Value) (r : Int) (l' : List Int) (w' : World), kI.R 3 w' w.heap.size (fun _ => True) v l' → (rd L rule < 0 → r = 8 ∧ l' = []) → (65536 < rd L rule → r = 3 ∧ l' = []) → (0 ≤ rd L rule → rd L rule ≤ 65536 → r = 0 ∧ l' = l) → RefRowPost w G rule l (.returned (.tuple #[v, .int .i64 r])) w' from fun v r l' w' q1 q2 q3 q4 => ⟨v, r, l', rfl, q1, .inr ⟨⟨hck, hp0, hp1⟩, L, hL, q2, q3, q4⟩⟩)
    clear h1 h2 h3 hck hL HY
    by_cases hz : 0 ≤ rd L rule
    · obtain rfl : sm = true := by rw [hs]; exact decide_eq_true hz
      obtain rfl : n = rd L rule := by rw [hn]; unfold mx; split <;> omega
      by_cases hlong : 65536 < rd L rule
      · have HE := Aside0.mk (fun w' => HTO.out (.slice none 0 0) 3 [] w' (Kd.R_nil _ _ _ _ _) (fun h => absurd h (by omega)) (fun _ => ⟨rfl, rfl⟩) (fun _ h => absurd h (by omega)))
        clear HTO hn hs HYL
        generalize rd L rule = z at hz hlong hb ⊢
        go_wp2_with (fail)
        go_ret2
        exact ⟨HE.out _, HW1.out.fr⟩
      · have hR2 := (base_true HC.out.base).2.2.1
        have hQ2 := (base_true HC.out.base).2.2.2.2.2
        have hK1 := HC.out.kinds.two
        have hK2 := HC.out.kinds.max
        obtain ⟨T, hTX, hSP, hll⟩ := HYL.out hz (by omega)
        have HTX := Aside0.mk hTX
        have HSP := Aside0.mk hSP
        obtain ⟨e0, e1, e2, e3, e4⟩ := HW1.out.cells
        have HGD := Aside0.mk (fun (v : Value) (w' : World) (k1 : kI.R 3 w' w.heap.size (fun _ => True) v l) => HTO.out v 0 l w' k1 (fun h => absurd h (by omega)) (fun h => absurd h (by omega)) (fun _ _ => ⟨rfl, rfl⟩))
        clear HTO hn hs HYL hTX hSP
        generalize hz2 : rd L rule = z at hz hlong hb
        clear hz2
        go_wp2_with (fail)
        refine (refleasts_calls W1 G A0 A1 A2 A3 c0 c1 c2 c3 (HG.out.go HW1.out.fr) HC.out).mono ?_
        rintro e W2 ⟨⟨v2, L2, rfl, hR, hL2⟩, hF2⟩
        have hl2 := hL2.len
        obtain rfl : L2 = L := least_uniq hL2 HL.out
        obtain ⟨gl, cl, rfl⟩ := ints_form hR (by omega)
        have HC2 := Aside0.mk ((Kd.R_reads' hR).2.2)
        have HK2 := Aside0.mk ((Kd.R_reads' hR).2.1)
        have HW2 := Aside0.mk (HW1.out.go hF2)
        have hwr : IntKind.i64.wrap ((G.kinds.length : Int) + rule) = (G.kinds.length : Int) + rule := by rw [i64_w]; simp only [wrap64]; omega
        rw [hl2]
        clear hR hL2 hF2 hl2 HW1 e0 e1 e2 e3 e4
        obtain ⟨e0, e1, e2, e3, e4⟩ := HW2.out.cells
        have HSF := Aside0.mk (show ∀ W', Fr (fun _ => False) W2 W' → (fun w' => w'.cell? ⟨w.heap.size, 0, none⟩ = some (.slice A0 G.kinds.length c0) ∧ w'.cell? ⟨w.heap.size, 1, none⟩ = some (.slice A1 G.precs.length c1) ∧ w'.cell? ⟨w.heap.size, 2, none⟩ = some (.slice A2 G.rules.length c2) ∧ w'.cell? ⟨w.heap.size, 3, none⟩ = some (.slice A3 G.prods.length c3) ∧ w'.cell? ⟨w.heap.size, 4, none⟩ = some (.int .i64 G.start)) W' from fun W' hF => ⟨hF.cell e0 id, hF.cell e1 id, hF.cell e2 id, hF.cell e3 id, hF.cell e4 id⟩)
        have HFr0 := Aside0.mk (Fr.refl (fun _ => False) W2).drew
        have HCH := Aside0.mk (fun W (hF : Fr (fun _ => False) W2 W) => chosen_calls W G A0 A1 A2 A3 (some ⟨gl, 0, none⟩) c0 c1 c2 c3 cl (HG.out.go (HW2.out.fr.trans hF (fun _ _ h => h))) HC.out L2 (Kd.C_below HC2.out hF.to_below) HK2.out HL.out)
        have HSPC := Aside0.mk (fun (TA : Option Addr) (tc : Nat) (W : World) (hF : Fr (fun _ => False) W2 W) (hlT : T.length = G.rules.length) (hCT : kI.C W TA T.length T) => refspelled_calls G A0 A1 A2 A3 (some ⟨gl, 0, none⟩) TA c0 c1 c2 c3 cl tc hK2 hR2 hQ2 L2 T HL.out.len hlT HC.out.prodsOk HSP.out (by omega) (by omega) (by omega) W (HG.out.go (HW2.out.fr.trans hF (fun _ _ h => h))) (Kd.C_below HC2.out hF.to_below) hCT)
        clear e0 e1 e2 e3 e4
        go_wp2_with (fail)
        refine wp_region_held_drew (S := fun w' => w'.cell? ⟨w.heap.size, 0, none⟩ = some (.slice A0 G.kinds.length c0) ∧ w'.cell? ⟨w.heap.size, 1, none⟩ = some (.slice A1 G.precs.length c1) ∧ w'.cell? ⟨w.heap.size, 2, none⟩ = some (.slice A2 G.rules.length c2) ∧ w'.cell? ⟨w.heap.size, 3, none⟩ = some (.slice A3 G.prods.length c3) ∧ w'.cell? ⟨w.heap.size, 4, none⟩ = some (.int .i64 G.start)) (by kernel_rfl) (HSF.out _ HFr0.out) (fun hHeld => ?_)
        refine wpAnyH_take (i := 0) (oi := ?ow0) (v := ?vw0) ?how0 (by kernel_rfl) (by kernel_rfl) (by kernel_rfl) ?hqw0 ?hyw0 (by assumption) ?restw0
        case how0 => (simp only [List.getElem?_toArray, List.getElem?_cons_zero]; rfl)
        case hqw0 => exact fun _ _ _ h => h
        case hyw0 => (refine Or.inl ⟨by rfl, ?_⟩; intro w0 hSw; (try dsimp only at hSw); go_simp; try with_reducible rfl)
        try simp only [Act.put, List.setIfInBounds_toArray, List.set_cons_zero, List.set_cons_succ]
        refine wpAnyH_take (i := 1) (oi := ?ow1) (v := ?vw1) ?how1 (by kernel_rfl) (by kernel_rfl) (by kernel_rfl) ?hqw1 ?hyw1 (by assumption) ?restw1
        case how1 => (simp only [List.getElem?_toArray, List.getElem?_cons_succ, List.getElem?_cons_zero]; rfl)
        case hqw1 => exact fun _ _ _ h => h
        case hyw1 => (refine Or.inl ⟨by rfl, ?_⟩; intro w0 hSw; (try dsimp only at hSw); go_simp; try with_reducible rfl)
        try simp only [Act.put, List.setIfInBounds_toArray, List.set_cons_zero, List.set_cons_succ]
        refine wpAnyH_take (i := 2) (oi := ?ow2) (v := ?vw2) ?how2 (by kernel_rfl) (by kernel_rfl) (by kernel_rfl) ?hqw2 ?hyw2 (by assumption) ?restw2
        case how2 => (simp only [List.getElem?_toArray, List.getElem?_cons_succ, List.getElem?_cons_zero]; rfl)
        case hqw2 => exact fun _ _ _ h => h
        case hyw2 => (refine Or.inl ⟨by rfl, ?_⟩; intro w0 hSw; (try dsimp only at hSw); go_simp; try with_reducible rfl)
        try simp only [Act.put, List.setIfInBounds_toArray, List.set_cons_zero, List.set_cons_succ]
        refine wpAnyH_take (i := 3) (oi := ?ow3) (v := ?vw3) ?how3 (by kernel_rfl) (by kernel_rfl) (by kernel_rfl) ?hqw3 ?hyw3 (by assumption) ?restw3
        case how3 => (simp only [List.getElem?_toArray, List.getElem?_cons_succ, List.getElem?_cons_zero]; rfl)
        case hqw3 => exact fun _ _ _ h => h
        case hyw3 => (refine Or.inl ⟨by rfl, ?_⟩; intro w0 hSw; (try dsimp only at hSw); go_simp; try with_reducible rfl)
        try simp only [Act.put, List.setIfInBounds_toArray, List.set_cons_zero, List.set_cons_succ]
        refine wpAnyH_take (i := 5) (oi := ?ow5) (v := ?vw5) ?how5 (by kernel_rfl) (by kernel_rfl) (by kernel_rfl) ?hqw5 ?hyw5 (by assumption) ?restw5
        case how5 => (simp only [List.getElem?_toArray, List.getElem?_cons_succ, List.getElem?_cons_zero]; rfl)
        case hqw5 => exact fun _ _ _ h => h
        case hyw5 => (refine Or.inl ⟨by rfl, ?_⟩; intro w0 hSw; (try dsimp only at hSw); go_simp; try with_reducible rfl)
        try simp only [Act.put, List.setIfInBounds_toArray, List.set_cons_zero, List.set_cons_succ]
        refine wpAnyH_take (i := 6) (oi := ?ow6) (v := ?vw6) ?how6 (by kernel_rfl) (by kernel_rfl) (by kernel_rfl) ?hqw6 ?hyw6 (by assumption) ?restw6
        case how6 => (simp only [List.getElem?_toArray, List.getElem?_cons_succ, List.getElem?_cons_zero]; rfl)
        case hqw6 => exact fun _ _ _ h => h
        case hyw6 => (refine Or.inl ⟨by rfl, ?_⟩; intro w0 hSw; (try dsimp only at hSw); go_simp; try with_reducible rfl)
        try simp only [Act.put, List.setIfInBounds_toArray, List.set_cons_zero, List.set_cons_succ]
        refine wpAnyH_take (i := 7) (oi := ?ow7) (v := ?vw7) ?how7 (by kernel_rfl) (by kernel_rfl) (by kernel_rfl) ?hqw7 ?hyw7 (by assumption) ?restw7
        case how7 => (simp only [List.getElem?_toArray, List.getElem?_cons_succ, List.getElem?_cons_zero]; rfl)
        case hqw7 => exact fun _ _ _ h => h
        case hyw7 => (refine Or.inl ⟨by rfl, ?_⟩; intro w0 hSw; (try dsimp only at hSw); go_simp; try with_reducible rfl)
        try simp only [Act.put, List.setIfInBounds_toArray, List.set_cons_zero, List.set_cons_succ]
        refine wpAnyH_take (i := 8) (oi := ?ow8) (v := ?vw8) ?how8 (by kernel_rfl) (by kernel_rfl) (by kernel_rfl) ?hqw8 ?hyw8 (by assumption) ?restw8
        case how8 => (simp only [List.getElem?_toArray, List.getElem?_cons_succ, List.getElem?_cons_zero]; rfl)
        case hqw8 => exact fun _ _ _ h => h
        case hyw8 => (refine Or.inl ⟨by rfl, ?_⟩; intro w0 hSw; (try dsimp only at hSw); go_simp; try with_reducible rfl)
        try simp only [Act.put, List.setIfInBounds_toArray, List.set_cons_zero, List.set_cons_succ]
        refine wpAnyH_take (i := 9) (oi := ?ow9) (v := ?vw9) ?how9 (by kernel_rfl) (by kernel_rfl) (by kernel_rfl) ?hqw9 ?hyw9 (by assumption) ?restw9
        case how9 => (simp only [List.getElem?_toArray, List.getElem?_cons_succ, List.getElem?_cons_zero]; rfl)
        case hqw9 => exact fun _ _ _ h => h
        case hyw9 => (refine Or.inl ⟨by rfl, ?_⟩; intro w0 hSw; (try dsimp only at hSw); go_simp; try with_reducible rfl)
        try simp only [Act.put, List.setIfInBounds_toArray, List.set_cons_zero, List.set_cons_succ]
        refine wpAnyH_ready (rs := [4]) (by kernel_rfl) (by simp) ?_
        refine AllReadyH.cons (o := ?ow4) ?how4 ?hsw4 AllReadyH.nil
        case how4 => (simp only [List.getElem?_toArray, List.getElem?_cons_succ, List.getElem?_cons_zero]; rfl)
        intro K hK
        go_simp
        refine (HCH.out _ HFr0.out).mono ?_
        rintro e W3 ⟨⟨v3, T3, rfl, hR3, hT3, hX3⟩, hF3⟩
        obtain rfl : T3 = T := hX3.same HTX.out
        obtain ⟨TA, tc, rfl⟩ := Kd.R_slice hR3
        have HT3 := Aside0.mk hT3
        have HC3 := Aside0.mk ((Kd.R_reads' hR3).2.2)
        have HF3 := Aside0.mk (HFr0.out.trans hF3 (fun _ _ h => h))
        rw [hT3]
        clear hR3 hT3 hX3 hF3
        try dsimp only
        refine hK.out _ _ (HSF.out _ HF3.out) (fun hHeld => ?_)
        clear hK K
        try simp only [Act.put, List.setIfInBounds_toArray, List.set_cons_zero, List.set_cons_succ]
        refine wpAnyH_ready (rs := [10]) (by kernel_rfl) (by simp) ?_
        refine AllReadyH.cons (o := ?ow10) ?how10 ?hsw10 AllReadyH.nil
        case how10 => (simp only [List.getElem?_toArray, List.getElem?_cons_succ, List.getElem?_cons_zero]; rfl)
        intro K hK
        go_simp
        refine (HSPC.out TA tc W3 HF3.out HT3.out HC3.out).mono ?_
        rintro e W4 ⟨v4, rfl, hR4, hF4⟩
        have HR4 := Aside0.mk hR4
        have HF4 := Aside0.mk (HF3.out.trans hF4 (fun _ _ h => h))
        clear hR4 hF4
        try dsimp only
        refine hK.out _ _ (HSF.out _ HF4.out) (fun hHeld => ?_)
        clear hK K
        try simp only [Act.put, List.setIfInBounds_toArray, List.set_cons_zero, List.set_cons_succ]
        refine wpAnyH_take (i := 11) (oi := ?ow11) (v := ?vw11) ?how11 (by kernel_rfl) (by kernel_rfl) (by kernel_rfl) ?hqw11 ?hyw11 (by assumption) ?restw11
        case how11 => (simp only [List.getElem?_toArray, List.getElem?_cons_succ, List.getElem?_cons_zero]; rfl)
        case hqw11 => exact fun _ _ _ h => h
        case hyw11 => (refine Or.inl ⟨by rfl, ?_⟩; intro w0 hSw; (try dsimp only at hSw); go_simp; try with_reducible rfl)
        try simp only [Act.put, List.setIfInBounds_toArray, List.set_cons_zero, List.set_cons_succ]
        refine wpAnyH_take (i := 12) (oi := ?ow12) (v := ?vw12) ?how12 (by kernel_rfl) (by kernel_rfl) (by kernel_rfl) ?hqw12 ?hyw12 (by assumption) ?restw12
        case how12 => (simp only [List.getElem?_toArray, List.getElem?_cons_succ, List.getElem?_cons_zero]; rfl)
        case hqw12 => exact fun _ _ _ h => h
        case hyw12 => (refine Or.inl ⟨by rfl, ?_⟩; intro w0 hSw; (try dsimp only at hSw); go_simp; try with_reducible rfl)
        try simp only [Act.put, List.setIfInBounds_toArray, List.set_cons_zero, List.set_cons_succ]
        refine wpAnyH_done (by kernel_rfl) ?_ _
        have HFE := Aside0.mk (HW2.out.fr.trans HF4.out (fun _ _ h => h))
        have HE := Aside0.mk (HGD.out v4 W4 (Kd.R_lower HR4.out (HW2.out.fr.trans HF3.out (fun _ _ h => h)).size))
        go_wp2_with (fail)
        go_ret2
        exact ⟨HE.out, HFE.out⟩
    · obtain rfl : sm = false := by rw [hs]; exact decide_eq_false hz
      have HE := Aside0.mk (fun w' => HTO.out (.slice none 0 0) 8 [] w' (Kd.R_nil _ _ _ _ _) (fun _ => ⟨rfl, rfl⟩) (fun h => absurd h (by omega)) (fun h => absurd h hz))
      clear HTO hn hs HYL
      generalize rd L rule = z at hz hb
      go_wp2_with (fail)
      go_ret2
      exact ⟨HE.out _, HW1.out.fr⟩
  · have HE := Aside0.mk (show ∀ w', RefRowPost w G rule l (.returned (.tuple #[.slice none 0 0, .int .i64 r])) w' from fun w' => ⟨_, r, [], rfl, Kd.R_nil _ _ _ _ _, .inl ⟨fun h => hr0 (h1.2 h), rfl, (h2 hr0).2.2.1, (h2 hr0).2.2.2⟩⟩)
    clear h1 h2 h3 HY
    go_wp2_with (fail)
    go_ret2
    exact ⟨HE.out _, HW1.out.fr⟩
end Go.Proofs.Ytdngobjcdajogaa.Gram
namespace Go.Proofs.Ytdngobjcdajogaa.Gram
open Go.RowKit Go.Proofs.YtdngobjcdajogaaW.PrintWords Go.Proofs.YtdngobjcdajogaaW.PrintLast Go.Proofs.YtdngobjcdajogaaW.PrintMore Go.Proofs.Ytdngobjcdajogaa.Fr Go.Proofs.Ytdngobjcdajogaa.PGramFirsts Go.Proofs.Ytdngobjcdajogaa.TextSet
theorem LeastPost.same {G : Gr} {rule : Int} {n m r k : Int} {a b : Bool} (h : LeastPost G rule (.returned (.tuple #[.int .i64 n, .bool a, .int .i64 r]))) (h' : LeastPost G rule (.returned (.tuple #[.int .i64 m, .bool b, .int .i64 k]))) : n = m ∧ a = b ∧ r = k := by
  obtain ⟨n1, a1, r1, e1, h1, h2, h3⟩ := h
  obtain ⟨n2, a2, r2, e2, g1, g2, g3⟩ := h'
  simp only [Ending.returned.injEq, Value.tuple.injEq, Array.mk.injEq, List.cons.injEq, Value.int.injEq, Value.bool.injEq, true_and, and_true] at e1 e2
  obtain ⟨rfl, rfl, rfl⟩ := e1
  obtain ⟨rfl, rfl, rfl⟩ := e2
  by_cases hr : r = 0
  · have hk : k = 0 := g1.2 (h1.1 hr)
    obtain ⟨L, hL, q1, q2⟩ := h3 hr
    obtain ⟨L', hL', p1, p2⟩ := g3 hk
    obtain rfl : L = L' := least_uniq hL hL'
    exact ⟨by rw [q1, p1], by rw [q2, p2], by rw [hr, hk]⟩
  · have hk : k ≠ 0 := fun hk => hr (h1.2 (g1.1 hk))
    obtain ⟨q1, q2, q3, q4⟩ := h2 hr
    obtain ⟨p1, p2, p3, p4⟩ := g2 hk
    refine ⟨by rw [q1, p1], by rw [q2, p2], ?_⟩
    by_cases hc : CheckOk G
    · rw [q3 hc, p3 hc]
    · rw [q4 hc, p4 hc]
set_option maxHeartbeats 8000000 in
set_option maxRecDepth 100000 in
theorem gramleasts_calls (w : World) (G : Gr) (A0 A1 A2 A3 : Option Addr) (c0 c1 c2 c3 : Nat) (h : GAt w G A0 A1 A2 A3 c0 c1 c2 c3) (rule : Int) :
    Calls Try.prog 5 #[.agg #[.slice A0 G.kinds.length c0, .slice A1 G.precs.length c1, .slice A2 G.rules.length c2, .slice A3 G.prods.length c3, .int .i64 G.start], .int .i64 rule] w fun e w' => e = .returned (.bool true) ∧ Fr (fun _ => False) w w' := by
  have hu := Try.underlying26
  have HG := Aside0.mk h
  have HW := Aside0.mk (show ChkW w (w.alloc (.cells #[.slice A0 G.kinds.length c0, .slice A1 G.precs.length c1, .slice A2 G.rules.length c2, .slice A3 G.prods.length c3, .int .i64 G.start] 26)) G A0 A1 A2 A3 c0 c1 c2 c3 from ⟨blk_new w _, (Fr.refl _ w).alloc _⟩)
  clear h
  go_enter Try.func5, Try.ntmps5
  go_upto_region 1 with fail
  generalize w.alloc (.cells #[.slice A0 G.kinds.length c0, .slice A1 G.precs.length c1, .slice A2 G.rules.length c2, .slice A3 G.prods.length c3, .int .i64 G.start] 26) = W0 at HW ⊢
  obtain ⟨e0, e1, e2, e3, e4⟩ := HW.out.cells
  go_wp2_with (fail)
  refine (least_calls W0 G A0 A1 A2 A3 c0 c1 c2 c3 (HG.out.go HW.out.fr) rule).mono ?_
  rintro e W1 ⟨hP, hF⟩
  obtain ⟨n, sm, r, rfl, _⟩ := id hP
  have HP := Aside0.mk hP
  have HW1 := Aside0.mk (HW.out.go hF)
  clear HW hF hP e0 e1 e2 e3 e4
  obtain ⟨e0, e1, e2, e3, e4⟩ := HW1.out.cells
  go_wp2_with (fail)
  refine (refleast_calls W1 G A0 A1 A2 A3 c0 c1 c2 c3 (HG.out.go HW1.out.fr) rule).mono ?_
  rintro e W2 ⟨hP, hF⟩
  obtain ⟨n2, sm2, r2, rfl, _⟩ := id hP
  obtain ⟨rfl, rfl, rfl⟩ := HP.out.same hP
  have HW2 := Aside0.mk (HW1.out.go hF)
  clear HW1 hF hP HP e0 e1 e2 e3 e4
  obtain ⟨e0, e1, e2, e3, e4⟩ := HW2.out.cells
  go_wp2_with (fail)
  refine (grow_calls W2 G A0 A1 A2 A3 c0 c1 c2 c3 (HG.out.go HW2.out.fr) rule).mono ?_
  rintro e W3 ⟨⟨v3, r3, l, rfl, hR3, hcase⟩, hF⟩
  have HW3 := Aside0.mk (HW2.out.go hF)
  have HY := Aside0.mk (show ∀ L, LeastOk G L → CheckOk G → 0 ≤ rule → rule < G.rules.length → 0 ≤ rd L rule → rd L rule ≤ 65536 → ∃ T, TakX G L T ∧ SpellS G L T (G.kinds.length + rule) l ∧ l.length ≤ 65536 from fun L hL q1 q2 q3 q4 q5 => by
    rcases hcase with ⟨hn, _⟩ | ⟨_, L', hL', htold⟩
    · exact absurd ⟨q1, q2, q3⟩ hn
    · obtain rfl : L = L' := least_uniq hL hL'
      obtain ⟨_, hlen, T, _, hsp, htx⟩ := htold.good q4 q5
      exact ⟨T, htx, hsp, by omega⟩)
  have HRS := Aside0.mk (show ∀ {e : Ending} {w' : World}, RefRowPost W3 G rule l e w' → ∃ v, e = .returned (.tuple #[v, .int .i64 r3]) ∧ kI.R 3 w' W3.heap.size (fun _ => True) v l from fun h => by
    obtain ⟨v, r, l', rfl, hR, hc⟩ := h
    rcases hcase with ⟨hn, hl0, g1, g2⟩ | ⟨hy, L, hL, htold⟩
    · rcases hc with ⟨_, hl1, k1, k2⟩ | ⟨hy, _⟩
      · have hr : r = r3 := by
          by_cases hck : CheckOk G
          · rw [k1 hck, g1 hck]
          · rw [k2 hck, g2 hck]
        rw [hl1] at hR
        rw [hl0, hr]
        exact ⟨v, rfl, hR⟩
      · exact absurd hy hn
    · rcases hc with ⟨hn, _⟩ | ⟨_, L', hL', k1, k2, k3⟩
      · exact absurd hy hn
      · obtain rfl : L = L' := least_uniq hL hL'
        rcases Int.lt_or_le (rd L rule) 0 with hz | hz
        · obtain ⟨e1, e2⟩ := k1 hz
          obtain ⟨e3, e4⟩ := htold.none hz
          rw [e2] at hR
          rw [e4, e3, e1]
          exact ⟨v, rfl, hR⟩
        · rcases Int.lt_or_le 65536 (rd L rule) with hb | hb
          · obtain ⟨e1, e2⟩ := k2 hb
            obtain ⟨e3, e4⟩ := htold.long hb
            rw [e2] at hR
            rw [e4, e3, e1]
            exact ⟨v, rfl, hR⟩
          · obtain ⟨e1, e2⟩ := k3 hz hb
            obtain ⟨e3, _⟩ := htold.good hz hb
            rw [e2] at hR
            rw [e3, e1]
            exact ⟨v, rfl, hR⟩)
  have HLL := Aside0.mk (show l.length ≤ 1000000 from by
    rcases hcase with ⟨_, hl0, _⟩ | ⟨hy, L, hL, htold⟩
    · rw [hl0]; decide
    · rcases Int.lt_or_le (rd L rule) 0 with hz | hz
      · rw [(htold.none hz).2]; decide
      · rcases Int.lt_or_le 65536 (rd L rule) with hb | hb
        · rw [(htold.long hb).2]; decide
        · have := (htold.good hz hb).2.1
          omega)
  have HR3 := Aside0.mk hR3
  clear HW2 hF hcase hR3 e0 e1 e2 e3 e4
  obtain ⟨e0, e1, e2, e3, e4⟩ := HW3.out.cells
  go_wp2_with (fail)
  refine (refrow_calls W3 G A0 A1 A2 A3 c0 c1 c2 c3 (HG.out.go HW3.out.fr) rule l HY.out).mono ?_
  rintro e W4 ⟨hP, hF⟩
  obtain ⟨v4, rfl, hR4⟩ := HRS.out hP
  have HF4 := Aside0.mk (HW3.out.fr.trans hF (fun _ _ h => h))
  have HR34 := Aside0.mk (Kd.R_below HR3.out hF.to_below)
  obtain ⟨PA, pc, rfl⟩ := Kd.R_slice HR34.out
  obtain ⟨QA, qc, rfl⟩ := Kd.R_slice hR4
  have HR4 := Aside0.mk hR4
  clear hP hF hR4 HRS HY HR3 e0 e1 e2 e3 e4 HW3
  go_wp2_with (fail)
  refine (same_calls W4 PA QA _ _ pc qc l (Kd.R_reads' HR34.out).2.2 (Kd.R_reads' HR4.out).2.2 rfl rfl HLL.out).mono ?_
  rintro e W5 ⟨rfl, hF⟩
  have HF5 := Aside0.mk (HF4.out.trans hF (fun _ _ h => h))
  clear hF HR34 HR4 HF4
  go_wp2_with (fail)
  refine (awake_calls W5).mono ?_
  rintro e W6 ⟨rfl, hF⟩
  have HF6 := Aside0.mk (HF5.out.trans hF (fun _ _ h => h))
  clear hF
  go_wp2_with (fail)
  go_ret
  exact ⟨rfl, HF6.out⟩
end Go.Proofs.Ytdngobjcdajogaa.Gram
namespace Go.Proofs.Ytdngobjcdajogaa.RowLeasts
open Go.ChangeShapes Go.WideShapes Go.ChangeAt Go.RowKit
open Go.Proofs.YtdngobjcdajogaaW.PrintWords Go.Proofs.Ytdngobjcdajogaa.Op Go.Proofs.Ytdngobjcdajogaa.Fr Go.Proofs.Ytdngobjcdajogaa.Gram Go.Proofs.Ytdngobjcdajogaa.OpPlain
set_option maxRecDepth 100000 in
theorem lifted (os : Os) (started : os.Started) (H : Type) (enc : TypeId × Value → H) :
    ReturnsInHanded {} Try.checked os 5 .any (Rows.gramLeastsSpec.pre6 enc Try.prog Try.f5 Rows.gramLeastsRow.domain false) (Rows.gramLeastsSpec.post enc Try.prog Try.f5 false true false false) := by
  refine returnsInHanded_of_change_sized (C := Try.checked) own started (by kernel_rfl) Try.func5
    (ChangeSpec.witness6 (enc := enc) (C := Try.checked) false ⟨#[], #[.agg #[.slice none 0 0, .slice none 0 0, .slice none 0 0, .slice none 0 0, .int .i64 0], .int .i64 0], []⟩ 8 (by kernel_rfl) (by kernel_rfl) (by kernel_rfl) (by kernel_rfl)) ?_
  intro W base args ds gs before hval0 hW _ hsz0 _
  have hval : ∀ (j : Nat) t v, Try.f5.params[j]? = some t → args[j]? = some v → Value.okWide Try.prog W .any base t v := hval0
  have hW' := hW
  obtain ⟨p, q, hA0, hV, rfl, _, _⟩ := hW
  have hA : DataW.TrodAll enc Try.prog W 0 (fun _ => true) true Try.f5.params.toList args.toList ds p := hA0
  have hA1 := hA
  rw [Try.params5] at hA hA1 hval
  obtain ⟨v0, vs0, d0, ds0, p0, q0, hargs, rfl, rfl, h0, r0⟩ := trodAll_cons hA
  obtain ⟨v1, vs1, d1, ds1, p1, q1, rfl, rfl, rfl, h1, r1⟩ := trodAll_cons r0
  obtain ⟨rfl, rfl, rfl⟩ := trodAll_nil r1
  obtain rfl : args = #[v0, v1] := by cases args; simp_all
  obtain ⟨rfl, rfl⟩ := trodVars_none hV
  obtain ⟨G, A0, A1, A2, A3, c0, c1, c2, c3, rfl, hG⟩ := plain_arg (hval 0 26 v0 rfl rfl) h0
  obtain ⟨x, rfl, rfl, rfl, _⟩ := open_int Try.underlying3 (hval 1 3 v1 rfl rfl) h1
  clear hA0 hval0 hsz0
  refine (gramleasts_calls W G A0 A1 A2 A3 c0 c1 c2 c3 hG x).mono fun e W' ⟨he, hF⟩ => ?_
  have bel := hF.to_below
  subst he
  exact ⟨_, rfl, _, _, _, [], _, [], hW', trodAll_mk1 (shut_bool Try.underlying4 _), all_below laidOut bel _ _ _ _ (by kernel_rfl) hA1, rfl, bel.frame _, fun h => by cases h⟩
theorem over : Rows.gramLeastsRow.holds Try.pinned (OpenSpec.ofChange Rows.gramLeastsSpec) :=
  OpenClaim.holds_of_wide 5 Try.f5 rfl rfl rfl rfl rfl rfl rfl ⟨rfl, rfl, rfl, rfl, rfl⟩ rfl rfl rfl rfl rfl (by kernel_rfl) Try.func5 (by kernel_rfl)
    (of_decide_eq_true (by kernel_rfl)) (by unfold Func.isWrapper; first | (rw [if_pos (by decide +kernel)]; kernel_rfl) | (rw [if_neg (by decide +kernel)]; exact ⟨rfl, rfl⟩))
    (fun os started H enc _ => lifted os started H enc)
theorem proved : Rows.GramLeastsSaid := over
#print axioms proved
end Go.Proofs.Ytdngobjcdajogaa.RowLeasts
namespace Go.Proofs.Ytdngobjcdajogaa
/-- The law of shortest rows. -/
theorem gramLeasts_holds : Rows.GramLeastsSaid := RowLeasts.proved
end Go.Proofs.Ytdngobjcdajogaa
