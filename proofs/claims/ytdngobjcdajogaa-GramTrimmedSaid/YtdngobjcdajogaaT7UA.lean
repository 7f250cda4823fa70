/-
A grammar without what is of no use: gram.Trim, walked.
-/
import Derived.Test.YtdngobjcdajogaaT7QZ
namespace Go.Proofs.Ytdngobjcdajogaa.Gram
open Go.RowKit Go.Proofs.YtdngobjcdajogaaW.PrintWords Go.Proofs.YtdngobjcdajogaaW.PrintLast Go.Proofs.YtdngobjcdajogaaW.PrintMore Go.Proofs.Ytdngobjcdajogaa.Fr Go.Proofs.Ytdngobjcdajogaa.PGramFirsts Go.Proofs.Ytdngobjcdajogaa.TextSet
theorem base_precs {G : Gr} (h : baseF true G = true) : G.precs.length = G.kinds.length := by
  obtain ⟨h1, _⟩ := startF_true (namesF_true h)
  have h3 := precsF_true h1
  rw [Bool.and_eq_true] at h3
  have := eq_of_beq h3.2
  omega
theorem info5P : (Try.prog.info? 26).map (·.size) = some 5 := by kernel_rfl
theorem info7P : (Try.prog.info? 57).map (·.size) = some 7 := by kernel_rfl
theorem cellsP (A B C D : Option Addr) (a b c d a' b' c' d' : Nat) (n : Int) : (#[.slice A a a', .slice B b b', .slice C c c', .slice D d d', .int .i64 n] : Array Value).all (·.oneCell') = true := by simp [Value.oneCell']
theorem cells7 (A B : Option Addr) (a b a' b' : Nat) (n0 n2 n3 n4 : Int) (s : ByteArray) : (#[.int .i64 n0, .slice A a a', .int .i64 n2, .int .i64 n3, .int .i64 n4, .string s, .slice B b b'] : Array Value).all (·.oneCell') = true := by simp [Value.oneCell']
def TrimPost (w : World) (G : Gr) (e : Ending) (w' : World) : Prop :=
  (¬ CheckOk G ∧ e = .returned (.tuple #[.agg zP, .int .i64 130])) ∨
  (CheckOk G ∧ rdOf false (proL G) G.start = false ∧ e = .returned (.tuple #[.agg zP, .int .i64 8])) ∨
  (CheckOk G ∧ rdOf false (proL G) G.start = true ∧ ∃ KA PA RA DA kc pc rc dc, e = .returned (.tuple #[.agg #[.slice KA (trimG G).kinds.length kc, .slice PA (trimG G).precs.length pc, .slice RA (trimG G).rules.length rc, .slice DA (trimG G).prods.length dc, .int .i64 (trimG G).start], .int .i64 0]) ∧
    Kd.string.R 9 w' w.heap.size (fun _ => True) (.slice KA (trimG G).kinds.length kc) (trimG G).kinds ∧ k73.R 73 w' w.heap.size (fun _ => True) (.slice PA (trimG G).precs.length pc) (trimG G).precs ∧
    Kd.string.R 9 w' w.heap.size (fun _ => True) (.slice RA (trimG G).rules.length rc) (trimG G).rules ∧ k57.R 57 w' w.heap.size (fun _ => True) (.slice DA (trimG G).prods.length dc) (trimG G).prods)
set_option maxHeartbeats 8000000 in
set_option maxRecDepth 100000 in
theorem trim_calls (w : World) (G : Gr) (A0 A1 A2 A3 : Option Addr) (c0 c1 c2 c3 : Nat) (h : GAt w G A0 A1 A2 A3 c0 c1 c2 c3) :
    Calls Try.prog 12 #[.agg #[.slice A0 G.kinds.length c0, .slice A1 G.precs.length c1, .slice A2 G.rules.length c2, .slice A3 G.prods.length c3, .int .i64 G.start]] w fun e w' => TrimPost w G e w' ∧ Fr (fun _ => False) w w' := by
  have hu := Try.underlying26
  have hu2 := Try.underlying57
  have hu3 := Try.underlying55
  have hmf : ∀ (fn : Fn) (first cap : Array Value) (w : World), (Instr.makeFunc fn first cap).run Try.prog w = .ok (.func fn first cap) w := fun _ _ _ _ => rfl
  have HG := Aside0.mk h
  have HW := Aside0.mk ((show ChkW w (w.alloc (.cells #[.slice A0 G.kinds.length c0, .slice A1 G.precs.length c1, .slice A2 G.rules.length c2, .slice A3 G.prods.length c3, .int .i64 G.start] 26)) G A0 A1 A2 A3 c0 c1 c2 c3 from ⟨blk_new w _, (Fr.refl _ w).alloc _⟩).go ((Fr.refl (fun _ => False) _).alloc (.cells zP 26)))
  have HB2 := Aside0.mk (blk_new (w.alloc (.cells #[.slice A0 G.kinds.length c0, .slice A1 G.precs.length c1, .slice A2 G.rules.length c2, .slice A3 G.prods.length c3, .int .i64 G.start] 26)) (.cells zP 26))
  have hws : (w.alloc (.cells #[.slice A0 G.kinds.length c0, .slice A1 G.precs.length c1, .slice A2 G.rules.length c2, .slice A3 G.prods.length c3, .int .i64 G.start] 26)).heap.size = w.heap.size + 1 := by simp only [World.size_alloc]
  rw [hws] at HB2
  clear h hws
  go_enter Try.func12, Try.ntmps12
  go_upto_region 1 with fail
  generalize (w.alloc (.cells #[.slice A0 G.kinds.length c0, .slice A1 G.precs.length c1, .slice A2 G.rules.length c2, .slice A3 G.prods.length c3, .int .i64 G.start] 26)).alloc (.cells zP 26) = W0 at HW HB2 ⊢
  obtain ⟨e0, e1, e2, e3, e4⟩ := HW.out.cells
  go_wp2_with (fail)
  refine (check_calls _ G A0 A1 A2 A3 c0 c1 c2 c3 (HG.out.go HW.out.fr)).mono ?_
  rintro e W1 ⟨⟨r, rfl, hr1, hr2⟩, hF⟩
  have HW1 := Aside0.mk (HW.out.go hF)
  have HB1 := Aside0.mk (hF.blk HB2.out id)
  clear HW hF HB2 e0 e1 e2 e3 e4
  by_cases hr0 : r = 0
  · subst hr0
    have HC := Aside0.mk (hr1.1 rfl)
    have hR1 := (base_true HC.out.base).2.1
    have hR2 := (base_true HC.out.base).2.2.1
    have hs0 := (base_true HC.out.base).2.2.2.1
    have hs1 := (base_true HC.out.base).2.2.2.2.1
    have hQ2 := (base_true HC.out.base).2.2.2.2.2
    have hK1 := HC.out.kinds.two
    have hK2 := HC.out.kinds.max
    clear hr1 hr2
    obtain ⟨e0, e1, e2, e3, e4⟩ := HW1.out.cells
    go_wp2_with (fail)
    refine (closed_calls _ G A0 A1 A2 A3 c0 c1 c2 c3 (HG.out.go HW1.out.fr) HC.out true).mono ?_
    rintro e W2 ⟨vp, rfl, hRp, hFp⟩
    obtain ⟨gm, cm, rfl⟩ := marks_form hRp (by rw [closedL_length]; exact hR1)
    rw [closedL_length] at hRp ⊢
    have HW2 := Aside0.mk (HW1.out.go hFp)
    have HB2 := Aside0.mk (hFp.blk HB1.out id)
    have HM2 := Aside0.mk (show kB.R 4 W2 w.heap.size (fun _ => True) (.slice (some ⟨gm, 0, none⟩) G.rules.length cm) (proL G) from Kd.R_lower hRp (by have := HW1.out.fr.size; omega))
    clear hRp hFp HW1 HB1 e0 e1 e2 e3 e4
    go_upto_region 5 with fail
    have HP3 := Aside0.mk (show (W2.alloc (.cells #[.slice (some ⟨gm, 0, none⟩) G.rules.length cm] 36)).heap[W2.heap.size]? = some (.cells #[.slice (some ⟨gm, 0, none⟩) G.rules.length cm] 36 (0, 0)) from blk_new W2 _)
    have HF3 := Aside0.mk (show Fr (fun _ => False) W2 (W2.alloc (.cells #[.slice (some ⟨gm, 0, none⟩) G.rules.length cm] 36)) from (Fr.refl (fun _ => False) W2).alloc _)
    generalize W2.alloc (.cells #[.slice (some ⟨gm, 0, none⟩) G.rules.length cm] 36) = W3 at HP3 HF3 ⊢
    have hp5 : w.heap.size + 1 < W2.heap.size := blk_lt HB2.out
    generalize W2.heap.size = p5 at HP3 hp5 ⊢
    have HW3 := Aside0.mk (HW2.out.go HF3.out)
    have HB3 := Aside0.mk (HF3.out.blk HB2.out id)
    have HM3 := Aside0.mk (Kd.R_below HM2.out HF3.out.to_below)
    clear HW2 HB2 HM2 HF3
    obtain ⟨e0, e1, e2, e3, e4⟩ := HW3.out.cells
    have p0 := (blk_cell HP3.out 0).trans (show _ = some (Value.slice (some ⟨gm, 0, none⟩) G.rules.length cm) from rfl)
    have hx := (marks_at HM3.out hs0 hs1).1
    cases hps : rdOf false (proL G) G.start with
    | false =>
      rw [hps] at hx
      have HFE := Aside0.mk (fr_row HW3.out.fr (q := w.heap.size + 1) zP (fun h => by omega))
      have HBE := Aside0.mk (setRow_heap W3 (w.heap.size + 1) zP zP 26 (0, 0) HB3.out)
      have HPS := Aside0.mk hps
      clear hps
      go_wp2_with (first | ((with_reducible refine gate_store (t := 26) (p := 2) (v := .tmp 32) rfl ?_); refine wpList_store_row rfl 26 (.tmp 2) (.tmp 32) rfl (w.heap.size + 1) zP rfl rfl 26 zP HB3.out info5P rfl (cellsP _ _ _ _ _ _ _ _ _ _ _ _ _) ?_))
      (try simp only [Exit.inBlock, Exit.then])
      refine bodyPost_ret (v := .tuple #[.agg zP, .int .i64 8]) ?hr1 ?hd1 ?hR1
      case hr1 => exact (results_cell_row_tmp (p := 2) (u := 3) (ty := 26) (by rfl) _ _ (w.heap.size + 1) 26 zP (0, 0) _ (by rfl) HBE.out hu (by rfl) info5P).trans (by rfl)
      case hd1 => rfl
      exact ⟨.inr (.inl ⟨HC.out, HPS.out, rfl⟩), HFE.out⟩
    | true =>
      rw [hps] at hx
      have HPS := Aside0.mk hps
      clear hps
      go_wp2_with (fail)
      have hrt := reached_trim W3 p5 w.heap.size G A0 A1 A2 A3 c0 c1 c2 c3 (HG.out.go HW3.out.fr) HC.out (mayT G) (fun i W B1 B6 d1 d6 hi hF hk hr hd => by
        have hpo := HC.out.prodsOk i hi
        have := good_calls W G A0 A1 A2 A3 c0 c1 c2 c3 (HG.out.go (HW3.out.fr.trans hF (fun _ _ h => h))) hK2 hR2 p5 w.heap.size gm cm (proL G) (closedL_length G true) (Kd.C_below (Kd.R_reads' HM3.out).2.2 hF.to_below) (by rw [show (proL G).length = G.rules.length from closedL_length G true]; exact (Kd.R_reads' HM3.out).2.1 |> fun h => by have := (Kd.R_reads' HM3.out).1; omega) (hF.blk HP3.out id) (hF.blk HW3.out.box id) (rd_T57 G.prods (i : Int)) hpo.1 hpo.2.1 hpo.2.2.2 hpo.2.2.1 B1 B6 d1 d6 (Kd.C_below hr hF.to_below) hd
        exact this)
      refine hrt.mono ?_
      clear hrt
      rintro e W4 ⟨vk, rfl, hRk, hFk⟩
      obtain ⟨gk, ck, rfl⟩ := marks_form hRk (by rw [reachL_length]; exact hR1)
      rw [reachL_length] at hRk ⊢
      have HW4 := Aside0.mk (HW3.out.go hFk)
      have HB4 := Aside0.mk (hFk.blk HB3.out id)
      have HP4 := Aside0.mk (hFk.blk HP3.out id)
      have HM4 := Aside0.mk (Kd.R_below HM3.out hFk.to_below)
      have HK4 := Aside0.mk (show kB.R 4 W4 w.heap.size (fun _ => True) (.slice (some ⟨gk, 0, none⟩) G.rules.length ck) (keepL G) from Kd.R_lower hRk (by have := HW3.out.fr.size; omega))
      clear HW3 HB3 HP3 HM3 hRk hFk e0 e1 e2 e3 e4 p0 hx
      obtain ⟨A0s, rfl⟩ : ∃ ad, A0 = some ad := by
        obtain ⟨ad, e, _⟩ := Kd.at_string HG.out.kinds 0 (Int.le_refl _) (by omega)
        exact ⟨ad, e⟩
      have hPL := base_precs HC.out.base
      obtain ⟨A1s, rfl⟩ : ∃ ad, A1 = some ad := by
        obtain ⟨ad, e, _⟩ := at_T73 HG.out.precs 0 (Int.le_refl _) (by omega)
        exact ⟨ad, e⟩
      have HPL := Aside0.mk hPL
      clear hPL
      have HCS := Aside0.mk (fun W (hF : Fr (fun _ => False) W4 W) => cloneS_calls W A0s G.kinds.length c0 G.kinds (Kd.C_below HG.out.kinds (HW4.out.fr.trans hF (fun _ _ h => h)).to_below) rfl (by omega))
      have HCP := Aside0.mk (fun W (hF : Fr (fun _ => False) W4 W) => cloneP_calls W A1s G.precs.length c1 G.precs (Kd.C_below HG.out.precs (HW4.out.fr.trans hF (fun _ _ h => h)).to_below) rfl (by have := HPL.out; omega))
      go_upto_region 9 with fail
      go_cut [8] (fun s8 wx => TLPost W4 G s8 wx)
      case first =>
        obtain ⟨e0, e1, e2, e3, e4⟩ := HW4.out.cells
        refine wp_region_last_drew (S := fun w' => w'.cell? ⟨w.heap.size, 0, none⟩ = some (.slice (some A0s) G.kinds.length c0) ∧ w'.cell? ⟨w.heap.size, 1, none⟩ = some (.slice (some A1s) G.precs.length c1)) (ds := [8]) (by kernel_rfl) (by obtain ⟨i0, i1, i2, i3, i4⟩ := (HW4.out.go ((Fr.refl (fun _ => False) W4).drew)).cells; exact ⟨i0, i1⟩) (fun hHeld => ?_)
        have HFd := Aside0.mk ((Fr.refl (fun _ => False) W4).drew)
        generalize W4.drew = Wd at HFd hHeld ⊢
        clear e0 e1 e2 e3 e4
        refine wpAnyLast_take (i := 0) (oi := ?oz0) (v := ?vz0) ?hoz0 (by kernel_rfl) (by kernel_rfl) (by kernel_rfl) (by kernel_rfl) (by kernel_rfl) ?hqz0 ?hyz0 (by assumption) ?restz0
        case hoz0 => (simp only [List.getElem?_toArray, List.getElem?_cons_zero]; rfl)
        case hqz0 => exact fun _ _ _ h => h
        case hyz0 => (refine Or.inl ⟨by rfl, ?_⟩; intro w0 hSw; (try dsimp only at hSw); go_simp; try with_reducible rfl)
        try simp only [Act.put, List.setIfInBounds_toArray, List.set_cons_zero, List.set_cons_succ]
        refine wpAnyLast_take (i := 1) (oi := ?oz1) (v := ?vz1) ?hoz1 (by kernel_rfl) (by kernel_rfl) (by kernel_rfl) (by kernel_rfl) (by kernel_rfl) ?hqz1 ?hyz1 (by assumption) ?restz1
        case hoz1 => (simp only [List.getElem?_toArray, List.getElem?_cons_succ, List.getElem?_cons_zero]; rfl)
        case hqz1 => exact fun _ _ _ h => h
        case hyz1 => (refine Or.inl ⟨by rfl, ?_⟩; intro w0 hSw; (try dsimp only at hSw); go_simp; try with_reducible rfl)
        try simp only [Act.put, List.setIfInBounds_toArray, List.set_cons_zero, List.set_cons_succ]
        refine wpAnyLast_take (i := 3) (oi := ?oz3) (v := ?vz3) ?hoz3 (by kernel_rfl) (by kernel_rfl) (by kernel_rfl) (by kernel_rfl) (by kernel_rfl) ?hqz3 ?hyz3 (by assumption) ?restz3
        case hoz3 => (simp only [List.getElem?_toArray, List.getElem?_cons_succ, List.getElem?_cons_zero]; rfl)
        case hqz3 => exact fun _ _ _ h => h
        case hyz3 => (refine Or.inl ⟨by rfl, ?_⟩; intro w0 hSw; (try dsimp only at hSw); go_simp; try with_reducible rfl)
        try simp only [Act.put, List.setIfInBounds_toArray, List.set_cons_zero, List.set_cons_succ]
        refine wpAnyLast_take (i := 4) (oi := ?oz4) (v := ?vz4) ?hoz4 (by kernel_rfl) (by kernel_rfl) (by kernel_rfl) (by kernel_rfl) (by kernel_rfl) ?hqz4 ?hyz4 (by assumption) ?restz4
        case hoz4 => (simp only [List.getElem?_toArray, List.getElem?_cons_succ, List.getElem?_cons_zero]; rfl)
        case hqz4 => exact fun _ _ _ h => h
        case hyz4 => (refine Or.inl ⟨by rfl, ?_⟩; intro w0 hSw; (try dsimp only at hSw); go_simp; try with_reducible rfl)
        try simp only [Act.put, List.setIfInBounds_toArray, List.set_cons_zero, List.set_cons_succ]
        refine wpAnyLast_ready (rs := [2, 7]) (by kernel_rfl) (by simp) ?_
        refine AllReadyL.cons (o := ?oa2) ?hoa2 (by decide) ?hsa2 (AllReadyL.cons (o := ?oa7) ?hoa7 (by decide) ?hsa7 AllReadyL.nil)
        case hoa2 => (simp only [List.getElem?_toArray, List.getElem?_cons_succ, List.getElem?_cons_zero]; rfl)
        case hoa7 => (simp only [List.getElem?_toArray, List.getElem?_cons_succ, List.getElem?_cons_zero]; rfl)
        case hsa2 =>
          intro K hK
          go_simp
          refine (HCS.out _ HFd.out).mono ?_
          rintro e W5 ⟨vq, rfl, hRq, hFq⟩
          obtain ⟨KA, kc, rfl⟩ := Kd.R_slice hRq
          have HFW5 := Aside0.mk (HFd.out.trans hFq (fun _ _ h => h))
          have HKW5 := Aside0.mk (Kd.R_lower hRq (show W4.heap.size ≤ _ from HFd.out.size))
          clear hRq hFq
          dsimp only
          refine hK.out _ _ (by obtain ⟨i0, i1, i2, i3, i4⟩ := (HW4.out.go HFW5.out).cells; exact ⟨i0, i1⟩) (fun hHeld => ?_)
          clear hK K
          try simp only [Act.put, List.setIfInBounds_toArray, List.set_cons_zero, List.set_cons_succ]
          refine wpAnyLast_ready (rs := [5, 7]) (by kernel_rfl) (by simp) ?_
          refine AllReadyL.cons (o := ?ob5) ?hob5 (by decide) ?hsb5 (AllReadyL.cons (o := ?ob7) ?hob7 (by decide) ?hsb7 AllReadyL.nil)
          case hob5 => (simp only [List.getElem?_toArray, List.getElem?_cons_succ, List.getElem?_cons_zero]; rfl)
          case hob7 => (simp only [List.getElem?_toArray, List.getElem?_cons_succ, List.getElem?_cons_zero]; rfl)
          case hsb5 =>
            intro K hK
            go_simp
            refine (HCP.out _ HFW5.out).mono ?_
            rintro e W6 ⟨vq, rfl, hRq, hFq⟩
            obtain ⟨PA, pc, rfl⟩ := Kd.R_slice hRq
            have HFW6 := Aside0.mk (HFW5.out.trans hFq (fun _ _ h => h))
            have HPW6 := Aside0.mk (Kd.R_lower hRq (show W4.heap.size ≤ _ from HFW5.out.size))
            have HKW6 := Aside0.mk (Kd.R_below HKW5.out hFq.to_below)
            clear hRq hFq
            dsimp only
            refine hK.out _ _ (by obtain ⟨i0, i1, i2, i3, i4⟩ := (HW4.out.go HFW6.out).cells; exact ⟨i0, i1⟩) (fun hHeld => ?_)
            clear hK K
            try simp only [Act.put, List.setIfInBounds_toArray, List.set_cons_zero, List.set_cons_succ]
            refine wpAnyLast_take (i := 6) (oi := ?ot6) (v := ?vt6) ?hot6 (by kernel_rfl) (by kernel_rfl) (by kernel_rfl) (by kernel_rfl) (by kernel_rfl) ?hqt6 ?hyt6 (by assumption) ?restt6
            case hot6 => (simp only [List.getElem?_toArray, List.getElem?_cons_succ, List.getElem?_cons_zero]; rfl)
            case hqt6 => exact fun _ _ _ h => h
            case hyt6 => (refine Or.inl ⟨by rfl, ?_⟩; intro w0 hSw; (try dsimp only at hSw); go_simp; try with_reducible rfl)
            try simp only [Act.put, List.setIfInBounds_toArray, List.set_cons_zero, List.set_cons_succ]
            refine wpAnyLast_ready (rs := [7]) (by kernel_rfl) (by simp) ?_
            refine AllReadyL.cons (o := ?oc7) ?hoc7 (by decide) ?hsc7 AllReadyL.nil
            case hoc7 => (simp only [List.getElem?_toArray, List.getElem?_cons_succ, List.getElem?_cons_zero]; rfl)
            case hsc7 =>
              intro K hK
              go_simp
              have HFW7 := Aside0.mk (HFW6.out.alloc (.cells zP 26))
              have HQ := Aside0.mk (blk_new W6 (.cells zP 26))
              have hlo := HFW6.out.size
              have HKW7 := Aside0.mk (Kd.R_alloc HKW6.out (.cells zP 26))
              have HPW7 := Aside0.mk (Kd.R_alloc HPW6.out (.cells zP 26))
              refine hK.out _ _ (by obtain ⟨i0, i1, i2, i3, i4⟩ := (HW4.out.go HFW7.out).cells; exact ⟨i0, i1⟩) (fun hHeld => ?_)
              clear hK K
              try simp only [Act.put, List.setIfInBounds_toArray, List.set_cons_zero, List.set_cons_succ]
              generalize W6.alloc (.cells zP 26) = W7 at HFW7 HQ hHeld HKW7 HPW7 ⊢
              generalize W6.heap.size = q at HQ hlo ⊢
              refine wpAnyLast_ready (rs := [8]) (by kernel_rfl) (by simp) ?_
              refine AllReadyL.cons_last (o := ?os1) ?hos1 (by decide) ?hss1 AllReadyL.nil
              case hos1 => (simp only [List.getElem?_toArray, List.getElem?_cons_succ, List.getElem?_cons_zero]; rfl)
              intro K hK
              rw [if_pos (by rfl)]
              refine wp_store_row 26 (.tmp 8) (.tmp 43) rfl _ _ rfl rfl 26 zP HQ.out info5P rfl (cellsP _ _ _ _ _ _ _ _ _ _ _ _ _) ?_
              refine hK.out _ _ ?_
              clear hK K
              try simp only [Act.put]
              refine wpAnyLast_done (by kernel_rfl) ?_ _
              have HE := Aside0.mk (TLPost.of HFW7.out hlo HQ.out HKW7.out HPW7.out)
              go_wp2_with (fail)
              go_meet
              exact HE.out
          case hsb7 =>
            intro K hK
            go_simp
            have HFW6 := Aside0.mk (HFW5.out.alloc (.cells zP 26))
            have HQ := Aside0.mk (blk_new W5 (.cells zP 26))
            have hlo := HFW5.out.size
            have HKW6 := Aside0.mk (Kd.R_alloc HKW5.out (.cells zP 26))
            refine hK.out _ _ (by obtain ⟨i0, i1, i2, i3, i4⟩ := (HW4.out.go HFW6.out).cells; exact ⟨i0, i1⟩) (fun hHeld => ?_)
            clear hK K
            try simp only [Act.put, List.setIfInBounds_toArray, List.set_cons_zero, List.set_cons_succ]
            generalize W5.alloc (.cells zP 26) = W6 at HFW6 HQ hHeld HKW6 ⊢
            generalize W5.heap.size = q at HQ hlo ⊢
            refine wpAnyLast_ready (rs := [5]) (by kernel_rfl) (by simp) ?_
            refine AllReadyL.cons (o := ?od5) ?hod5 (by decide) ?hsd5 AllReadyL.nil
            case hod5 => (simp only [List.getElem?_toArray, List.getElem?_cons_succ, List.getElem?_cons_zero]; rfl)
            case hsd5 =>
              intro K hK
              go_simp
              refine (HCP.out _ HFW6.out).mono ?_
              rintro e W7 ⟨vq, rfl, hRq, hFq⟩
              obtain ⟨PA, pc, rfl⟩ := Kd.R_slice hRq
              have HFW7 := Aside0.mk (HFW6.out.trans hFq (fun _ _ h => h))
              have HPW7 := Aside0.mk (Kd.R_lower hRq (show W4.heap.size ≤ _ from HFW6.out.size))
              have HKW7 := Aside0.mk (Kd.R_below HKW6.out hFq.to_below)
              have HQW7 := Aside0.mk (hFq.blk HQ.out id)
              clear HQ
              have HQ := HQW7
              clear hRq hFq
              dsimp only
              refine hK.out _ _ (by obtain ⟨i0, i1, i2, i3, i4⟩ := (HW4.out.go HFW7.out).cells; exact ⟨i0, i1⟩) (fun hHeld => ?_)
              clear hK K
              try simp only [Act.put, List.setIfInBounds_toArray, List.set_cons_zero, List.set_cons_succ]
              refine wpAnyLast_take (i := 6) (oi := ?os2b) (v := ?vs2b) ?hos2b (by kernel_rfl) (by kernel_rfl) (by kernel_rfl) (by kernel_rfl) (by kernel_rfl) ?hqs2b ?hys2b (by assumption) ?rests2b
              case hos2b => (simp only [List.getElem?_toArray, List.getElem?_cons_succ, List.getElem?_cons_zero]; rfl)
              case hqs2b => exact fun _ _ _ h => h
              case hys2b => (refine Or.inl ⟨by rfl, ?_⟩; intro w0 hSw; (try dsimp only at hSw); go_simp; try with_reducible rfl)
              try simp only [Act.put, List.setIfInBounds_toArray, List.set_cons_zero, List.set_cons_succ]
              refine wpAnyLast_ready (rs := [8]) (by kernel_rfl) (by simp) ?_
              refine AllReadyL.cons_last (o := ?os2) ?hos2 (by decide) ?hss2 AllReadyL.nil
              case hos2 => (simp only [List.getElem?_toArray, List.getElem?_cons_succ, List.getElem?_cons_zero]; rfl)
              intro K hK
              rw [if_pos (by rfl)]
              refine wp_store_row 26 (.tmp 8) (.tmp 43) rfl _ _ rfl rfl 26 zP HQ.out info5P rfl (cellsP _ _ _ _ _ _ _ _ _ _ _ _ _) ?_
              refine hK.out _ _ ?_
              clear hK K
              try simp only [Act.put]
              refine wpAnyLast_done (by kernel_rfl) ?_ _
              have HE := Aside0.mk (TLPost.of HFW7.out hlo HQ.out HKW7.out HPW7.out)
              go_wp2_with (fail)
              go_meet
              exact HE.out
        case hsa7 =>
          intro K hK
          go_simp
          have HFW5 := Aside0.mk (HFd.out.alloc (.cells zP 26))
          have HQ := Aside0.mk (blk_new Wd (.cells zP 26))
          have hlo := HFd.out.size
          refine hK.out _ _ (by obtain ⟨i0, i1, i2, i3, i4⟩ := (HW4.out.go HFW5.out).cells; exact ⟨i0, i1⟩) (fun hHeld => ?_)
          clear hK K
          try simp only [Act.put, List.setIfInBounds_toArray, List.set_cons_zero, List.set_cons_succ]
          generalize Wd.alloc (.cells zP 26) = W5 at HFW5 HQ hHeld  ⊢
          generalize Wd.heap.size = q at HQ hlo ⊢
          refine wpAnyLast_ready (rs := [2]) (by kernel_rfl) (by simp) ?_
          refine AllReadyL.cons (o := ?oe2) ?hoe2 (by decide) ?hse2 AllReadyL.nil
          case hoe2 => (simp only [List.getElem?_toArray, List.getElem?_cons_succ, List.getElem?_cons_zero]; rfl)
          case hse2 =>
            intro K hK
            go_simp
            refine (HCS.out _ HFW5.out).mono ?_
            rintro e W6 ⟨vq, rfl, hRq, hFq⟩
            obtain ⟨KA, kc, rfl⟩ := Kd.R_slice hRq
            have HFW6 := Aside0.mk (HFW5.out.trans hFq (fun _ _ h => h))
            have HKW6 := Aside0.mk (Kd.R_lower hRq (show W4.heap.size ≤ _ from HFW5.out.size))
            have HQW6 := Aside0.mk (hFq.blk HQ.out id)
            clear HQ
            have HQ := HQW6
            clear hRq hFq
            dsimp only
            refine hK.out _ _ (by obtain ⟨i0, i1, i2, i3, i4⟩ := (HW4.out.go HFW6.out).cells; exact ⟨i0, i1⟩) (fun hHeld => ?_)
            clear hK K
            try simp only [Act.put, List.setIfInBounds_toArray, List.set_cons_zero, List.set_cons_succ]
            refine wpAnyLast_ready (rs := [5]) (by kernel_rfl) (by simp) ?_
            refine AllReadyL.cons (o := ?of5) ?hof5 (by decide) ?hsf5 AllReadyL.nil
            case hof5 => (simp only [List.getElem?_toArray, List.getElem?_cons_succ, List.getElem?_cons_zero]; rfl)
            case hsf5 =>
              intro K hK
              go_simp
              refine (HCP.out _ HFW6.out).mono ?_
              rintro e W7 ⟨vq, rfl, hRq, hFq⟩
              obtain ⟨PA, pc, rfl⟩ := Kd.R_slice hRq
              have HFW7 := Aside0.mk (HFW6.out.trans hFq (fun _ _ h => h))
              have HPW7 := Aside0.mk (Kd.R_lower hRq (show W4.heap.size ≤ _ from HFW6.out.size))
              have HKW7 := Aside0.mk (Kd.R_below HKW6.out hFq.to_below)
              have HQW7 := Aside0.mk (hFq.blk HQ.out id)
              clear HQ
              have HQ := HQW7
              clear hRq hFq
              dsimp only
              refine hK.out _ _ (by obtain ⟨i0, i1, i2, i3, i4⟩ := (HW4.out.go HFW7.out).cells; exact ⟨i0, i1⟩) (fun hHeld => ?_)
              clear hK K
              try simp only [Act.put, List.setIfInBounds_toArray, List.set_cons_zero, List.set_cons_succ]
              refine wpAnyLast_take (i := 6) (oi := ?os3b) (v := ?vs3b) ?hos3b (by kernel_rfl) (by kernel_rfl) (by kernel_rfl) (by kernel_rfl) (by kernel_rfl) ?hqs3b ?hys3b (by assumption) ?rests3b
              case hos3b => (simp only [List.getElem?_toArray, List.getElem?_cons_succ, List.getElem?_cons_zero]; rfl)
              case hqs3b => exact fun _ _ _ h => h
              case hys3b => (refine Or.inl ⟨by rfl, ?_⟩; intro w0 hSw; (try dsimp only at hSw); go_simp; try with_reducible rfl)
              try simp only [Act.put, List.setIfInBounds_toArray, List.set_cons_zero, List.set_cons_succ]
              refine wpAnyLast_ready (rs := [8]) (by kernel_rfl) (by simp) ?_
              refine AllReadyL.cons_last (o := ?os3) ?hos3 (by decide) ?hss3 AllReadyL.nil
              case hos3 => (simp only [List.getElem?_toArray, List.getElem?_cons_succ, List.getElem?_cons_zero]; rfl)
              intro K hK
              rw [if_pos (by rfl)]
              refine wp_store_row 26 (.tmp 8) (.tmp 43) rfl _ _ rfl rfl 26 zP HQ.out info5P rfl (cellsP _ _ _ _ _ _ _ _ _ _ _ _ _) ?_
              refine hK.out _ _ ?_
              clear hK K
              try simp only [Act.put]
              refine wpAnyLast_done (by kernel_rfl) ?_ _
              have HE := Aside0.mk (TLPost.of HFW7.out hlo HQ.out HKW7.out HPW7.out)
              go_wp2_with (fail)
              go_meet
              exact HE.out
      case rest =>
        obtain ⟨o, kc, pc, KA, PA, rfl, hL⟩ := hcut
        have HL := Aside0.mk hL
        clear hL HCS HCP
        obtain ⟨e0, e1, e2, e3, e4⟩ := (HW4.out.go HL.out.fr).cells
        go_upto_region 11 with (at_make; refine Kd.R_make kI (w0 := wc) wc.heap.size 3 rfl (N := 47) rfl 27 _ _ rfl (G.rules.length : Int) rfl rfl Try.underlying27 (.int .i64 0) 8 info3 rfl (by decide) (by omega) (0 : Int) (ok := fun _ => True) (okp := fun _ => True) rfl (fun _ hk => hk) trivial (by omega) (by omega) (Below.refl _ _) (Nat.le_refl _) ?_; intro v5 W5 h5 hB5 hg5 hb5; have HN5 := Aside0.mk (show kI.R 3 W5 wc.heap.size (fun _ => True) v5 (List.replicate G.rules.length 0) by simpa using h5); have HF5 := Aside0.mk (show Fr (fun _ => False) wc W5 from Fr.of_below hB5); clear h5 hB5 hg5 hb5)
        obtain ⟨gn, cn, rfl, hgb, _⟩ := Kd.R_form HN5.out (by simp; omega)
        simp only [List.length_replicate] at HN5 ⊢
        have HT0 := Aside0.mk (show T1 W5 W5 o gn cn G.rules.length 0 (.slice KA G.kinds.length kc) (.slice PA G.precs.length pc) (.slice none 0 0) (.slice none 0 0) (.int .i64 0) wc.heap.size (numL (kpT G) G.rules.length 0) (rulesL (kpT G) G.rules 0) from ⟨Fr.refl _ _, HF5.out.blk HL.out.box id, by rw [numL_zero]; exact HN5.out, Kd.R_nil _ _ _ _ _⟩)
        clear e0 e1 e2 e3 e4 HN5
        obtain ⟨e0, e1, e2, e3, e4⟩ := (HW4.out.go (HL.out.fr.trans HF5.out (fun _ _ h => h))).cells
        have hlo := HL.out.lo
        have hsz4 := HL.out.fr.size
        have hsz5 := HF5.out.size
        go_wp2_with (fail)
        clear e0 e1 e2 e3 e4
        go_loopw [51] (fun a W => ∃ (k : Nat) (RA : Option Addr) (rc : Nat), a = .int .i64 k ∧ k ≤ G.rules.length ∧ Aside0 (T1 W5 W o gn cn G.rules.length 0 (.slice KA G.kinds.length kc) (.slice PA G.precs.length pc) (.slice RA (numF (kpT G) k) rc) (.slice none 0 0) (.int .i64 0) wc.heap.size (numL (kpT G) G.rules.length k) (rulesL (kpT G) G.rules k))) (fun a _ => G.rules.length - (intOf a).toNat)
        case atStart => exact ⟨0, none, 0, rfl, Nat.zero_le _, HT0⟩
        case round =>
          clear HT0
          obtain ⟨k, RA, rc, rfl, hk, HT⟩ := hrel
          have HFW := Aside0.mk (show Fr (fun _ => False) W4 wr from (HL.out.fr.trans HF5.out (fun _ _ h => h)).trans HT.out.fr (fun i hi e => by omega))
          have HT1 := Aside0.mk HT.out.fr
          by_cases hlt : k < G.rules.length
          · have HLT := Aside0.mk hlt
            obtain ⟨ad2, rfl, hx⟩ := Kd.at_string HG.out.rules (k : Int) (by omega) (by omega)
            simp only [Int.toNat_natCast] at hx
            have y := HFW.out.cell (HW4.out.fr.cell hx id) id
            obtain ⟨e0, e1, e2, e3, e4⟩ := (HW4.out.go HFW.out).cells
            have p0 := (blk_cell (HFW.out.blk HP4.out id) 0).trans (show _ = some (Value.slice (some ⟨gm, 0, none⟩) G.rules.length cm) from rfl)
            have hm := (marks_at (Kd.R_below HM4.out HFW.out.to_below) (i := (k : Int)) (by omega) (by omega)).1
            have hkk := (marks_at (Kd.R_below HK4.out HFW.out.to_below) (i := (k : Int)) (by omega) (by omega)).1
            have o2 := (blk_cell HT.out.box 2).trans (show _ = some (Value.slice RA (numF (kpT G) k) rc) from rfl)
            obtain ⟨hn, hnf⟩ := Kd.R_celln (0 : Int) HT.out.num (k : Int) (by omega) (by omega)
            simp only [Int.toNat_natCast] at hm hkk hn hnf
            have HKP := Aside0.mk (show kpT G k = (rdOf false (keepL G) (k : Int) && rdOf false (proL G) (k : Int)) from rfl)
            have HX := Aside0.mk (show rdS G.rules k = rdOf ByteArray.empty G.rules (k : Int) from rfl)
            generalize rdOf ByteArray.empty G.rules (k : Int) = x at y HX
            generalize rdOf false (keepL G) (k : Int) = bk at hkk HKP
            generalize rdOf false (proL G) (k : Int) = bp at hm HKP
            clear hx
            cases hbb : (bk && bp) with
            | false =>
              have HT2 := Aside0.mk (show T1 W5 wr o gn cn G.rules.length 0 (.slice KA G.kinds.length kc) (.slice PA G.precs.length pc) (.slice RA (numF (kpT G) (k + 1)) rc) (.slice none 0 0) (.int .i64 0) wc.heap.size (numL (kpT G) G.rules.length (k + 1)) (rulesL (kpT G) G.rules (k + 1)) by
                rw [numL_false (by rw [HKP.out]; exact hbb), rulesL_false (by rw [HKP.out]; exact hbb), numF_same (by rw [HKP.out]; exact hbb)]; exact HT.out)
              clear HT HKP
              cases bk with
              | false =>
                clear hbb
                go_wp2_with (fail)
                exact ⟨⟨k + 1, RA, rc, by go_num, HLT.out, HT2⟩, by have := HLT.out; simp [intOf]; omega⟩
              | true =>
                obtain rfl : bp = false := hbb
                go_wp2_with (fail)
                exact ⟨⟨k + 1, RA, rc, by go_num, HLT.out, HT2⟩, by have := HLT.out; simp [intOf]; omega⟩
            | true =>
              obtain ⟨rfl, rfl⟩ : bk = true ∧ bp = true := by simpa using hbb
              have hkp : kpT G k = true := by rw [HKP.out]; rfl
              have HLN := Aside0.mk (show (rulesL (kpT G) G.rules k ++ [x]).length = numF (kpT G) (k + 1) by rw [List.length_append, rulesL_len, numF_succ hkp]; rfl)
              have HNT := Aside0.mk (numL_true (R := G.rules.length) hkp)
              have HRT := Aside0.mk (show rulesL (kpT G) G.rules (k + 1) = rulesL (kpT G) G.rules k ++ [x] by rw [rulesL_true hkp, HX.out])
              have HNB := Aside0.mk (show numF (kpT G) k ≤ 2048 from Nat.le_trans (numF_le _ _) (by omega))
              have HT2 := Aside0.mk (HT.out.put (k : Int) (numF (kpT G) k))
              simp only [Int.toNat_natCast] at HT2
              rw [← HNT.out] at HT2
              clear hbb hkp HKP HX HNT HT
              go_upto_region 16 with fail
              generalize wr.setCell ⟨gn, k, none⟩ (.int .i64 (numF (kpT G) k)) = W7 at HT2 ⊢
              have o3 := (blk_cell HT2.out.box 2).trans (show _ = some (Value.slice RA (numF (kpT G) k) rc) from rfl)
              have hbs := HT2.out.fr.size
              clear y e0 e1 e2 e3 e4 p0 hm hkk o2 hn hnf
              go_wp2_with (first | ((with_reducible refine gate_builtin (b := .append) (xs := #[.tmp 73, .tmp 75]) rfl ?_); at_builtin; refine Kd.R_append Kd.string (w0 := W7) W5.heap.size rfl (.tmp 73) (.tmp 75) 22 9 (.string ⟨#[]⟩) 16 rfl Try.underlying22 info9 rfl (by decide) (by omega) _ (rulesL (kpT G) G.rules k) x [.string x] (fun _ => True) (fun _ => False) rfl rfl rfl (fun _ hf => hf.elim) (fun _ _ => trivial) HT2.out.rul (Below.refl _ _) hbs (by have := HNB.out; rw [rulesL_len]; omega) ?_; intro v8 W8 h8 hb8 hg8 hat8; obtain ⟨RA8, rc8, rfl⟩ := Kd.R_slice h8; rw [HLN.out] at h8 ⊢; have HT8 := Aside0.mk (HT2.out.app h8 hg8); have HBX := Aside0.mk (HT2.out.boxg hg8); have o4 := (blk_cell HBX.out 2).trans (show _ = some (Value.slice RA (numF (kpT G) k) rc) from rfl); have o4f := blk_frozen HBX.out 2; clear h8 hb8 hg8 hat8))
              rw [← HRT.out] at HT8
              exact ⟨⟨k + 1, RA8, rc8, by go_num, HLT.out, HT8⟩, by have := HLT.out; simp [intOf]; omega⟩
          · obtain rfl : k = G.rules.length := by omega
            obtain ⟨e0, e1, e2, e3, e4⟩ := (HW4.out.go HFW.out).cells
            obtain ⟨hn, _⟩ := Kd.R_celln (0 : Int) HT.out.num G.start hs0 hs1
            have o4 := (blk_cell HT.out.box 4).trans (show _ = some (Value.int .i64 0) from rfl)
            have o4f := blk_frozen HT.out.box 4
            have HST := Aside0.mk (show rdOf (0 : Int) (numL (kpT G) G.rules.length G.rules.length) G.start = (trimG G).start from rfl)
            rw [HST.out] at hn
            have HGO := Aside0.mk (show gn ≠ o from fun e => by
              obtain ⟨cc, hc⟩ := Kd.R_typed HT.out.num gn rfl
              exact typed_ne hc HT.out.box (by decide) e)
            have HBX9 := Aside0.mk (blk_set (j := 4) HT.out.box (.int .i64 (trimG G).start))
            have HRL9 := Aside0.mk (Kd.R_set HT.out.rul HT.out.box (by decide) 4 (.int .i64 (trimG G).start))
            have HNU9 := Aside0.mk (Kd.R_set HT.out.num HT.out.box (by decide) 4 (.int .i64 (trimG G).start))
            have HF9 := Aside0.mk (HT.out.fr.set (g := o) (o := 4) (.int .i64 (trimG G).start) (fun _ => .inl rfl))
            generalize (trimG G).start = st at hn HST HBX9 HRL9 HNU9 HF9
            go_upto_region 19 with fail
            clear e0 e1 e2 e3 e4 hn o4 o4f HT HT1 HFW
            generalize wr.setCell ⟨o, 4, none⟩ (.int .i64 st) = W9 at HBX9 HRL9 HNU9 HF9 ⊢
            have HBX9 : Aside0 (W9.heap[o]? = some (.cells #[.slice KA G.kinds.length kc, .slice PA G.precs.length pc, .slice RA (numF (kpT G) G.rules.length) rc, .slice none 0 0, .int .i64 st] 26 (0, 0))) := HBX9
            have HF49 := Aside0.mk (show Fr (fun _ => False) W4 W9 from (HL.out.fr.trans HF5.out (fun _ _ h => h)).trans HF9.out (fun i hi e => by omega))
            have HT0 := Aside0.mk (show T2 W9 W9 o (.slice KA G.kinds.length kc) (.slice PA G.precs.length pc) (.slice RA (numF (kpT G) G.rules.length) rc) (.slice none 0 0) (.int .i64 st) (prodsL G.kinds.length (staysT G) (numT G) (G.prods.take 0)) from ⟨Fr.refl _ _, HBX9.out, Kd.R_nil _ _ _ _ _⟩)
            have ho9 : o < W9.heap.size := blk_lt HBX9.out
            have hsz9 := HF49.out.size
            obtain ⟨e0, e1, e2, e3, e4⟩ := (HW4.out.go HF49.out).cells
            go_wp2_with (fail)
            clear e0 e1 e2 e3 e4
            go_loopw [88] (fun a W => ∃ (i n : Nat) (DA : Option Addr) (dc : Nat), a = .int .i64 i ∧ i ≤ G.prods.length ∧ Aside0 (T2 W9 W o (.slice KA G.kinds.length kc) (.slice PA G.precs.length pc) (.slice RA (numF (kpT G) G.rules.length) rc) (.slice DA n dc) (.int .i64 st) (prodsL G.kinds.length (staysT G) (numT G) (G.prods.take i)))) (fun a _ => G.prods.length - (intOf a).toNat)
            case atStart => exact ⟨0, 0, none, 0, rfl, Nat.zero_le _, HT0⟩
            case round =>
              clear HT0
              obtain ⟨i, n, DA, dc, rfl, hi, HT⟩ := hrel
              have HFW := Aside0.mk (show Fr (fun _ => False) W4 wr from HF49.out.trans HT.out.fr (fun i hi e => by omega))
              by_cases hlt : i < G.prods.length
              · have HLT := Aside0.mk hlt
                obtain ⟨ad, B1, d1, B6, d6, rfl, x0, x1, x2, x3, x4, x5, x6, hl1, hC1, hl6, hC6⟩ := at_T57 HG.out.prods (i : Int) (by omega) (by omega)
                simp only [Int.toNat_natCast] at x0 x1 x2 x3 x4 x5 x6
                have y0 := HFW.out.cell (HW4.out.fr.cell x0 id) id
                have y1 := HFW.out.cell (HW4.out.fr.cell x1 id) id
                have y2 := HFW.out.cell (HW4.out.fr.cell x2 id) id
                have y3 := HFW.out.cell (HW4.out.fr.cell x3 id) id
                have y4 := HFW.out.cell (HW4.out.fr.cell x4 id) id
                have y5 := HFW.out.cell (HW4.out.fr.cell x5 id) id
                have y6 := HFW.out.cell (HW4.out.fr.cell x6 id) id
                clear x0 x1 x2 x3 x4 x5 x6
                go_upto_region 22 with fail
                have HPB := Aside0.mk (blk_new wr (.cells #[.int .i64 (rd_T57 G.prods (i : Int)).f0, .slice B1 (rd_T57 G.prods (i : Int)).f1.length d1, .int .i64 (rd_T57 G.prods (i : Int)).f2, .int .i64 (rd_T57 G.prods (i : Int)).f3.f0, .int .i64 (rd_T57 G.prods (i : Int)).f3.f1, .string (rd_T57 G.prods (i : Int)).f3.f2, .slice B6 (rd_T57 G.prods (i : Int)).f3.f3.length d6] 57))
                have HTA := Aside0.mk (HT.out.go ((Fr.refl (fun _ => False) wr).alloc (.cells #[.int .i64 (rd_T57 G.prods (i : Int)).f0, .slice B1 (rd_T57 G.prods (i : Int)).f1.length d1, .int .i64 (rd_T57 G.prods (i : Int)).f2, .int .i64 (rd_T57 G.prods (i : Int)).f3.f0, .int .i64 (rd_T57 G.prods (i : Int)).f3.f1, .string (rd_T57 G.prods (i : Int)).f3.f2, .slice B6 (rd_T57 G.prods (i : Int)).f3.f3.length d6] 57)))
                have HFA := Aside0.mk (HFW.out.alloc (.cells #[.int .i64 (rd_T57 G.prods (i : Int)).f0, .slice B1 (rd_T57 G.prods (i : Int)).f1.length d1, .int .i64 (rd_T57 G.prods (i : Int)).f2, .int .i64 (rd_T57 G.prods (i : Int)).f3.f0, .int .i64 (rd_T57 G.prods (i : Int)).f3.f1, .string (rd_T57 G.prods (i : Int)).f3.f2, .slice B6 (rd_T57 G.prods (i : Int)).f3.f3.length d6] 57))
                clear y0 y1 y2 y3 y4 y5 y6 HT HFW
                generalize wr.alloc (.cells #[.int .i64 (rd_T57 G.prods (i : Int)).f0, .slice B1 (rd_T57 G.prods (i : Int)).f1.length d1, .int .i64 (rd_T57 G.prods (i : Int)).f2, .int .i64 (rd_T57 G.prods (i : Int)).f3.f0, .int .i64 (rd_T57 G.prods (i : Int)).f3.f1, .string (rd_T57 G.prods (i : Int)).f3.f2, .slice B6 (rd_T57 G.prods (i : Int)).f3.f3.length d6] 57) = W10 at HPB HTA HFA ⊢
                generalize wr.heap.size = bp at HPB ⊢
                have hpo := HC.out.prods i hlt
                have HTT := Aside0.mk (fun h => prodsL_true (K := G.kinds.length) (stays := staysT G) (num := numT G) hlt h)
                have HTF := Aside0.mk (fun h => prodsL_false (K := G.kinds.length) (stays := staysT G) (num := numT G) hlt h)
                rw [show rd_T57 G.prods i = rd_T57 G.prods (i : Int) from rfl] at hpo HTT HTF
                have HPI := Aside0.mk hpo
                have HC1 := Aside0.mk hC1
                have HC6 := Aside0.mk hC6
                have HL1 := Aside0.mk hl1
                have HL6 := Aside0.mk hl6
                clear hpo hC1 hC6 hl1 hl6
                generalize rd_T57 G.prods (i : Int) = pr at HPB HPI HC1 HC6 HL1 HL6 HTT HTF ⊢
                have z0 := (blk_cell HPB.out 0).trans (show _ = some (Value.int .i64 pr.f0) from rfl)
                have z1 := (blk_cell HPB.out 1).trans (show _ = some (Value.slice B1 pr.f1.length d1) from rfl)
                have z2 := (blk_cell HPB.out 2).trans (show _ = some (Value.int .i64 pr.f2) from rfl)
                have z3 := (blk_cell HPB.out 3).trans (show _ = some (Value.int .i64 pr.f3.f0) from rfl)
                have z4 := (blk_cell HPB.out 4).trans (show _ = some (Value.int .i64 pr.f3.f1) from rfl)
                have z5 := (blk_cell HPB.out 5).trans (show _ = some (Value.string pr.f3.f2) from rfl)
                have z6 := (blk_cell HPB.out 6).trans (show _ = some (Value.slice B6 pr.f3.f3.length d6) from rfl)
                have HGD := Aside0.mk (good_calls W10 G (some A0s) (some A1s) A2 (some ad) c0 c1 c2 c3 (HG.out.go (HW4.out.fr.trans HFA.out (fun _ _ h => h))) hK2 hR2 p5 w.heap.size gm cm (proL G) (closedL_length G true) (Kd.C_below (Kd.R_reads' HM4.out).2.2 HFA.out.to_below) (by rw [show (proL G).length = G.rules.length from closedL_length G true]; have h1 := (Kd.R_reads' HM4.out).2.1; omega) (HFA.out.blk HP4.out id) ((HW4.out.go HFA.out).box) pr HPI.out.l0 HPI.out.l1 HPI.out.syms HPI.out.len B1 B6 d1 d6 (Kd.C_below HC1.out (HW4.out.fr.trans HFA.out (fun _ _ h => h)).to_below) HL1.out)
                have HSD := Aside0.mk (show staysT G pr = (goodB G.kinds.length (proL G) pr && rdOf false (keepL G) pr.f0) from rfl)
                generalize goodB G.kinds.length (proL G) pr = bg at HGD HSD
                go_wp2_with (fail)
                refine HGD.out.mono ?_
                rintro e W11 ⟨rfl, hF11⟩
                have HTB := Aside0.mk (HTA.out.go hF11)
                have HFB := Aside0.mk (HFA.out.trans hF11 (fun _ _ h => h))
                have HPB1 := Aside0.mk (hF11.blk HPB.out id)
                clear hF11 HGD HPB HTA HFA z0 z1 z2 z3 z4 z5 z6
                have z0 := (blk_cell HPB1.out 0).trans (show _ = some (Value.int .i64 pr.f0) from rfl)
                have hl0 := HPI.out.l0
                have hl1 := HPI.out.l1
                have hkk := (marks_at (Kd.R_below HK4.out HFB.out.to_below) hl0 hl1).1
                generalize rdOf false (keepL G) pr.f0 = bk at hkk HSD
                cases hbb : (bg && bk) with
                | false =>
                  have HT2 := Aside0.mk (show T2 W9 W11 o (.slice KA G.kinds.length kc) (.slice PA G.precs.length pc) (.slice RA (numF (kpT G) G.rules.length) rc) (.slice DA n dc) (.int .i64 st) (prodsL G.kinds.length (staysT G) (numT G) (G.prods.take (i + 1))) by
                    rw [HTF.out (by rw [HSD.out]; exact hbb)]; exact HTB.out)
                  cases bg with
                  | false =>
                    clear hbb
                    go_wp2_with (fail)
                    exact ⟨⟨i + 1, n, DA, dc, by go_num, HLT.out, HT2⟩, by have := HLT.out; simp [intOf]; omega⟩
                  | true =>
                    obtain rfl : bk = false := hbb
                    go_wp2_with (fail)
                    exact ⟨⟨i + 1, n, DA, dc, by go_num, HLT.out, HT2⟩, by have := HLT.out; simp [intOf]; omega⟩
                | true =>
                  obtain ⟨rfl, rfl⟩ : bg = true ∧ bk = true := by simpa using hbb
                  have HTN := Aside0.mk (HTT.out (by rw [HSD.out]; rfl))
                  clear hbb HTT HTF HSD
                  go_wp2_with (fail)
                  clear hkk z0
                  have hn := HTB.out.fr.cell (Kd.R_celln (0 : Int) HNU9.out pr.f0 hl0 hl1).1 HGO.out
                  have HN := Aside0.mk (show W11.cell? ⟨gn, pr.f0.toNat, none⟩ = some (.int .i64 (rd (numT G) pr.f0)) from hn)
                  clear hn
                  have HC23 := Aside0.mk (show ∀ W, Fr (fun _ => False) W11 W → W.cell? ⟨bp, 0, none⟩ = some (.int .i64 pr.f0) ∧ W.cell? ⟨bp, 2, none⟩ = some (.int .i64 pr.f2) ∧ W.cell? ⟨bp, 3, none⟩ = some (.int .i64 pr.f3.f0) ∧ W.cell? ⟨bp, 4, none⟩ = some (.int .i64 pr.f3.f1) ∧ W.cell? ⟨bp, 5, none⟩ = some (.string pr.f3.f2) ∧ W.cell? ⟨bp, 6, none⟩ = some (.slice B6 pr.f3.f3.length d6) ∧ W.cell? ⟨gn, pr.f0.toNat, none⟩ = some (.int .i64 (rd (numT G) pr.f0)) from
                    fun W hF => ⟨(blk_cell (hF.blk HPB1.out id) 0).trans rfl, (blk_cell (hF.blk HPB1.out id) 2).trans rfl, (blk_cell (hF.blk HPB1.out id) 3).trans rfl, (blk_cell (hF.blk HPB1.out id) 4).trans rfl, (blk_cell (hF.blk HPB1.out id) 5).trans rfl, (blk_cell (hF.blk HPB1.out id) 6).trans rfl, hF.cell HN.out id⟩)
                  have HCO := Aside0.mk (fun W (hF : Fr (fun _ => False) W11 W) => copied_calls W pr.f3 B6 d6 (Kd.C_below HC6.out (HW4.out.fr.trans (HFB.out.trans hF (fun _ _ h => h)) (fun _ _ h => h)).to_below) HL6.out HPI.out.sml)
                  go_cut [14] (fun s14 wx => QPost W11 (rd (numT G) pr.f0) pr.f2 pr.f3 s14 wx)
                  case first =>
                    obtain ⟨i0, i2, i3, i4, i5, i6, ig⟩ := HC23.out W11 (Fr.refl _ _)
                    obtain ⟨left, hle⟩ : ∃ left, left = rd (numT G) pr.f0 := ⟨_, rfl⟩
                    rw [← hle] at ig HC23 HN
                    have HLEFT := Aside0.mk hle
                    clear hle
                    refine wp_region_last_drew (S := fun w' => w'.cell? ⟨bp, 0, none⟩ = some (.int .i64 pr.f0) ∧ w'.cell? ⟨bp, 2, none⟩ = some (.int .i64 pr.f2) ∧ w'.cell? ⟨bp, 3, none⟩ = some (.int .i64 pr.f3.f0) ∧ w'.cell? ⟨bp, 4, none⟩ = some (.int .i64 pr.f3.f1) ∧ w'.cell? ⟨bp, 5, none⟩ = some (.string pr.f3.f2) ∧ w'.cell? ⟨bp, 6, none⟩ = some (.slice B6 pr.f3.f3.length d6) ∧ w'.cell? ⟨gn, pr.f0.toNat, none⟩ = some (.int .i64 left)) (ds := [12]) (by kernel_rfl) (HC23.out _ ((Fr.refl (fun _ => False) W11).drew)) (fun hHeld => ?_)
                    have HFd := Aside0.mk ((Fr.refl (fun _ => False) W11).drew)
                    generalize W11.drew = Wd at HFd hHeld ⊢
                    clear i0 i2 i3 i4 i5 i6 ig
                    refine wpAnyLast_take (i := 0) (oi := ?ow0) (v := ?vw0) ?how0 (by kernel_rfl) (by kernel_rfl) (by kernel_rfl) (by kernel_rfl) (by kernel_rfl) ?hqw0 ?hyw0 (by assumption) ?restw0
                    case how0 => (simp only [List.getElem?_toArray, List.getElem?_cons_zero]; rfl)
                    case hqw0 => exact fun _ _ _ h => h
                    case hyw0 => (refine Or.inl ⟨by rfl, ?_⟩; intro w0 hSw; (try dsimp only at hSw); go_simp; try with_reducible rfl)
                    try simp only [Act.put, List.setIfInBounds_toArray, List.set_cons_zero, List.set_cons_succ]
                    refine wpAnyLast_take (i := 1) (oi := ?ow1) (v := ?vw1) ?how1 (by kernel_rfl) (by kernel_rfl) (by kernel_rfl) (by kernel_rfl) (by kernel_rfl) ?hqw1 ?hyw1 (by assumption) ?restw1
                    case how1 => (simp only [List.getElem?_toArray, List.getElem?_cons_succ, List.getElem?_cons_zero]; rfl)
                    case hqw1 => exact fun _ _ _ h => h
                    case hyw1 => (refine Or.inl ⟨by rfl, ?_⟩; intro w0 hSw; (try dsimp only at hSw); go_simp; try with_reducible rfl)
                    try simp only [Act.put, List.setIfInBounds_toArray, List.set_cons_zero, List.set_cons_succ]
                    refine wpAnyLast_take (i := 2) (oi := ?ow2) (v := ?vw2) ?how2 (by kernel_rfl) (by kernel_rfl) (by kernel_rfl) (by kernel_rfl) (by kernel_rfl) ?hqw2 ?hyw2 (by assumption) ?restw2
                    case how2 => (simp only [List.getElem?_toArray, List.getElem?_cons_succ, List.getElem?_cons_zero]; rfl)
                    case hqw2 => exact fun _ _ _ h => h
                    case hyw2 => (refine Or.inl ⟨by rfl, ?_⟩; intro w0 hSw; (try dsimp only at hSw); go_simp; try with_reducible rfl)
                    try simp only [Act.put, List.setIfInBounds_toArray, List.set_cons_zero, List.set_cons_succ]
                    refine wpAnyLast_take (i := 3) (oi := ?ow3) (v := ?vw3) ?how3 (by kernel_rfl) (by kernel_rfl) (by kernel_rfl) (by kernel_rfl) (by kernel_rfl) ?hqw3 ?hyw3 (by assumption) ?restw3
                    case how3 => (simp only [List.getElem?_toArray, List.getElem?_cons_succ, List.getElem?_cons_zero]; rfl)
                    case hqw3 => exact fun _ _ _ h => h
                    case hyw3 => (refine Or.inl ⟨by rfl, ?_⟩; intro w0 hSw; (try dsimp only at hSw); go_simp; try with_reducible rfl)
                    try simp only [Act.put, List.setIfInBounds_toArray, List.set_cons_zero, List.set_cons_succ]
                    refine wpAnyLast_take (i := 4) (oi := ?ow4) (v := ?vw4) ?how4 (by kernel_rfl) (by kernel_rfl) (by kernel_rfl) (by kernel_rfl) (by kernel_rfl) ?hqw4 ?hyw4 (by assumption) ?restw4
                    case how4 => (simp only [List.getElem?_toArray, List.getElem?_cons_succ, List.getElem?_cons_zero]; rfl)
                    case hqw4 => exact fun _ _ _ h => h
                    case hyw4 => (refine Or.inl ⟨by rfl, ?_⟩; intro w0 hSw; (try dsimp only at hSw); go_simp; try with_reducible rfl)
                    try simp only [Act.put, List.setIfInBounds_toArray, List.set_cons_zero, List.set_cons_succ]
                    refine wpAnyLast_take (i := 5) (oi := ?ow5) (v := ?vw5) ?how5 (by kernel_rfl) (by kernel_rfl) (by kernel_rfl) (by kernel_rfl) (by kernel_rfl) ?hqw5 ?hyw5 (by assumption) ?restw5
                    case how5 => (simp only [List.getElem?_toArray, List.getElem?_cons_succ, List.getElem?_cons_zero]; rfl)
                    case hqw5 => exact fun _ _ _ h => h
                    case hyw5 => (refine Or.inl ⟨by rfl, ?_⟩; intro w0 hSw; (try dsimp only at hSw); go_simp; try with_reducible rfl)
                    try simp only [Act.put, List.setIfInBounds_toArray, List.set_cons_zero, List.set_cons_succ]
                    refine wpAnyLast_take (i := 6) (oi := ?ow6) (v := ?vw6) ?how6 (by kernel_rfl) (by kernel_rfl) (by kernel_rfl) (by kernel_rfl) (by kernel_rfl) ?hqw6 ?hyw6 (by assumption) ?restw6
                    case how6 => (simp only [List.getElem?_toArray, List.getElem?_cons_succ, List.getElem?_cons_zero]; rfl)
                    case hqw6 => exact fun _ _ _ h => h
                    case hyw6 => (refine Or.inl ⟨by rfl, ?_⟩; intro w0 hSw; (try dsimp only at hSw); go_simp; try with_reducible rfl)
                    try simp only [Act.put, List.setIfInBounds_toArray, List.set_cons_zero, List.set_cons_succ]
                    refine wpAnyLast_take (i := 7) (oi := ?ow7) (v := ?vw7) ?how7 (by kernel_rfl) (by kernel_rfl) (by kernel_rfl) (by kernel_rfl) (by kernel_rfl) ?hqw7 ?hyw7 (by assumption) ?restw7
                    case how7 => (simp only [List.getElem?_toArray, List.getElem?_cons_succ, List.getElem?_cons_zero]; rfl)
                    case hqw7 => exact fun _ _ _ h => h
                    case hyw7 => (refine Or.inl ⟨by rfl, ?_⟩; intro w0 hSw; (try dsimp only at hSw); go_simp; try with_reducible rfl)
                    try simp only [Act.put, List.setIfInBounds_toArray, List.set_cons_zero, List.set_cons_succ]
                    refine wpAnyLast_take (i := 8) (oi := ?ow8) (v := ?vw8) ?how8 (by kernel_rfl) (by kernel_rfl) (by kernel_rfl) (by kernel_rfl) (by kernel_rfl) ?hqw8 ?hyw8 (by assumption) ?restw8
                    case how8 => (simp only [List.getElem?_toArray, List.getElem?_cons_succ, List.getElem?_cons_zero]; rfl)
                    case hqw8 => exact fun _ _ _ h => h
                    case hyw8 => (refine Or.inl ⟨by rfl, ?_⟩; intro w0 hSw; (try dsimp only at hSw); go_simp; try with_reducible rfl)
                    try simp only [Act.put, List.setIfInBounds_toArray, List.set_cons_zero, List.set_cons_succ]
                    refine wpAnyLast_ready (rs := [9, 11]) (by kernel_rfl) (by simp) ?_
                    refine AllReadyL.cons (o := ?oi9) ?hoi9 (by decide) ?hsi9 (AllReadyL.cons (o := ?oi11) ?hoi11 (by decide) ?hsi11 AllReadyL.nil)
                    case hoi9 => (simp only [List.getElem?_toArray, List.getElem?_cons_succ, List.getElem?_cons_zero]; rfl)
                    case hoi11 => (simp only [List.getElem?_toArray, List.getElem?_cons_succ, List.getElem?_cons_zero]; rfl)
                    case hsi9 =>
                      intro K hK
                      go_simp
                      refine (HCO.out _ HFd.out).mono ?_
                      rintro e W12 ⟨vq, rfl, hRq, hFq⟩
                      obtain ⟨CA, cc, rfl⟩ := Kd.R_slice hRq
                      have HFW12 := Aside0.mk (HFd.out.trans hFq (fun _ _ h => h))
                      have HRW12 := Aside0.mk (Kd.R_lower hRq (show W11.heap.size ≤ _ from HFd.out.size))
                      clear hRq hFq
                      dsimp only
                      refine hK.out _ _ (HC23.out _ HFW12.out) (fun hHeld => ?_)
                      clear hK K
                      try simp only [Act.put, List.setIfInBounds_toArray, List.set_cons_zero, List.set_cons_succ]
                      refine wpAnyLast_take (i := 10) (oi := ?ot10) (v := ?vt10) ?hot10 (by kernel_rfl) (by kernel_rfl) (by kernel_rfl) (by kernel_rfl) (by kernel_rfl) ?hqt10 ?hyt10 (by assumption) ?restt10
                      case hot10 => (simp only [List.getElem?_toArray, List.getElem?_cons_succ, List.getElem?_cons_zero]; rfl)
                      case hqt10 => exact fun _ _ _ h => h
                      case hyt10 => (refine Or.inl ⟨by rfl, ?_⟩; intro w0 hSw; (try dsimp only at hSw); go_simp; try with_reducible rfl)
                      try simp only [Act.put, List.setIfInBounds_toArray, List.set_cons_zero, List.set_cons_succ]
                      refine wpAnyLast_ready (rs := [11]) (by kernel_rfl) (by simp) ?_
                      refine AllReadyL.cons (o := ?og11) ?hog11 (by decide) ?hsg11 AllReadyL.nil
                      case hog11 => (simp only [List.getElem?_toArray, List.getElem?_cons_succ, List.getElem?_cons_zero]; rfl)
                      case hsg11 =>
                        intro K hK
                        go_simp
                        have HFW13 := Aside0.mk (HFW12.out.alloc (.cells z7 57))
                        have HQ := Aside0.mk (blk_new W12 (.cells z7 57))
                        have hlo := HFW12.out.size
                        have HRW13 := Aside0.mk (Kd.R_alloc HRW12.out (.cells z7 57))
                        refine hK.out _ _ (HC23.out _ HFW13.out) (fun hHeld => ?_)
                        clear hK K
                        try simp only [Act.put, List.setIfInBounds_toArray, List.set_cons_zero, List.set_cons_succ]
                        generalize W12.alloc (.cells z7 57) = W13 at HFW13 HQ hHeld HRW13 ⊢
                        generalize W12.heap.size = q at HQ hlo ⊢
                        refine wpAnyLast_ready (rs := [12]) (by kernel_rfl) (by simp) ?_
                        refine AllReadyL.cons_last (o := ?os4) ?hos4 (by decide) ?hss4 AllReadyL.nil
                        case hos4 => (simp only [List.getElem?_toArray, List.getElem?_cons_succ, List.getElem?_cons_zero]; rfl)
                        intro K hK
                        rw [if_pos (by rfl)]
                        refine wp_store_row 57 (.tmp 14) (.tmp 114) rfl _ _ rfl rfl 57 z7 HQ.out info7P rfl (cells7 _ _ _ _ _ _ _ _ _ _ _) ?_
                        refine hK.out _ _ ?_
                        clear hK K
                        try simp only [Act.put]
                        refine wpAnyLast_done (by kernel_rfl) ?_ _
                        have HE := Aside0.mk (QPost.of (left := left) (lvl := pr.f2) (a := pr.f3) HFW13.out hlo HQ.out HRW13.out)
                        go_wp2_with (fail)
                        go_meet
                        rw [← HLEFT.out]
                        exact HE.out
                    case hsi11 =>
                      intro K hK
                      go_simp
                      have HFW12 := Aside0.mk (HFd.out.alloc (.cells z7 57))
                      have HQ := Aside0.mk (blk_new Wd (.cells z7 57))
                      have hlo := HFd.out.size
                      refine hK.out _ _ (HC23.out _ HFW12.out) (fun hHeld => ?_)
                      clear hK K
                      try simp only [Act.put, List.setIfInBounds_toArray, List.set_cons_zero, List.set_cons_succ]
                      generalize Wd.alloc (.cells z7 57) = W12 at HFW12 HQ hHeld  ⊢
                      generalize Wd.heap.size = q at HQ hlo ⊢
                      refine wpAnyLast_ready (rs := [9]) (by kernel_rfl) (by simp) ?_
                      refine AllReadyL.cons (o := ?oh9) ?hoh9 (by decide) ?hsh9 AllReadyL.nil
                      case hoh9 => (simp only [List.getElem?_toArray, List.getElem?_cons_succ, List.getElem?_cons_zero]; rfl)
                      case hsh9 =>
                        intro K hK
                        go_simp
                        refine (HCO.out _ HFW12.out).mono ?_
                        rintro e W13 ⟨vq, rfl, hRq, hFq⟩
                        obtain ⟨CA, cc, rfl⟩ := Kd.R_slice hRq
                        have HFW13 := Aside0.mk (HFW12.out.trans hFq (fun _ _ h => h))
                        have HRW13 := Aside0.mk (Kd.R_lower hRq (show W11.heap.size ≤ _ from HFW12.out.size))
                        have HQW13 := Aside0.mk (hFq.blk HQ.out id)
                        clear HQ
                        have HQ := HQW13
                        clear hRq hFq
                        dsimp only
                        refine hK.out _ _ (HC23.out _ HFW13.out) (fun hHeld => ?_)
                        clear hK K
                        try simp only [Act.put, List.setIfInBounds_toArray, List.set_cons_zero, List.set_cons_succ]
                        refine wpAnyLast_take (i := 10) (oi := ?os5b) (v := ?vs5b) ?hos5b (by kernel_rfl) (by kernel_rfl) (by kernel_rfl) (by kernel_rfl) (by kernel_rfl) ?hqs5b ?hys5b (by assumption) ?rests5b
                        case hos5b => (simp only [List.getElem?_toArray, List.getElem?_cons_succ, List.getElem?_cons_zero]; rfl)
                        case hqs5b => exact fun _ _ _ h => h
                        case hys5b => (refine Or.inl ⟨by rfl, ?_⟩; intro w0 hSw; (try dsimp only at hSw); go_simp; try with_reducible rfl)
                        try simp only [Act.put, List.setIfInBounds_toArray, List.set_cons_zero, List.set_cons_succ]
                        refine wpAnyLast_ready (rs := [12]) (by kernel_rfl) (by simp) ?_
                        refine AllReadyL.cons_last (o := ?os5) ?hos5 (by decide) ?hss5 AllReadyL.nil
                        case hos5 => (simp only [List.getElem?_toArray, List.getElem?_cons_succ, List.getElem?_cons_zero]; rfl)
                        intro K hK
                        rw [if_pos (by rfl)]
                        refine wp_store_row 57 (.tmp 14) (.tmp 114) rfl _ _ rfl rfl 57 z7 HQ.out info7P rfl (cells7 _ _ _ _ _ _ _ _ _ _ _) ?_
                        refine hK.out _ _ ?_
                        clear hK K
                        try simp only [Act.put]
                        refine wpAnyLast_done (by kernel_rfl) ?_ _
                        have HE := Aside0.mk (QPost.of (left := left) (lvl := pr.f2) (a := pr.f3) HFW13.out hlo HQ.out HRW13.out)
                        go_wp2_with (fail)
                        go_meet
                        rw [← HLEFT.out]
                        exact HE.out
                  case rest =>
                    obtain ⟨q, CA, cc, rfl, hF12, hlq, hbq, hR12⟩ := hcut
                    have HF12 := Aside0.mk hF12
                    have HBQ := Aside0.mk hbq
                    have HR12 := Aside0.mk hR12
                    have hq12 := blk_lt hbq
                    have z1 := (blk_cell (hF12.blk HPB1.out id) 1).trans (show _ = some (Value.slice B1 pr.f1.length d1) from rfl)
                    have hs11 := hF12.size
                    have hs49 := HTB.out.fr.size
                    have hm1 := Kd.C_max HC1.out
                    have hpl := HPI.out.len
                    have HS0 := Aside0.mk (show T3 wc wc q (rd (numT G) pr.f0) pr.f2 pr.f3.f0 pr.f3.f1 pr.f3.f2 (.slice none 0 0) (.slice CA pr.f3.f3.length cc) ((pr.f1.take 0).map (symT G.kinds.length (numT G))) from ⟨Fr.refl _ _, hbq, Kd.R_nil _ _ _ _ _⟩)
                    clear HC23 HCO HN hF12 hbq hR12 HPB1 hl0 hl1
                    go_wp2_with (fail)
                    clear z1
                    go_loopw [118] (fun a W => ∃ (t qn : Nat) (QA : Option Addr) (qc : Nat), a = .int .i64 t ∧ t ≤ pr.f1.length ∧ Aside0 (T3 wc W q (rd (numT G) pr.f0) pr.f2 pr.f3.f0 pr.f3.f1 pr.f3.f2 (.slice QA qn qc) (.slice CA pr.f3.f3.length cc) ((pr.f1.take t).map (symT G.kinds.length (numT G))))) (fun a _ => pr.f1.length - (intOf a).toNat)
                    case atStart => exact ⟨0, 0, none, 0, rfl, Nat.zero_le _, HS0⟩
                    case round =>
                      clear HS0
                      obtain ⟨t, qn, QA, qc, rfl, ht, HS⟩ := hrel
                      have HFR := Aside0.mk (show Fr (fun _ => False) W11 wr from HF12.out.trans HS.out.fr (fun i hi e => by omega))
                      have HFT := Aside0.mk (HFB.out.trans HFR.out (fun _ _ h => h))
                      by_cases hltt : t < pr.f1.length
                      · have HLTT := Aside0.mk hltt
                        obtain ⟨adr, rfl, hx⟩ := Kd.at_int HC1.out (t : Int) (by omega) (by omega)
                        simp only [Int.toNat_natCast] at hx
                        have y := HFT.out.cell (HW4.out.fr.cell hx id) id
                        have hsy := HPI.out.syms t hltt
                        rw [show rd pr.f1 t = rd pr.f1 (t : Int) from rfl] at hsy
                        have HTK := Aside0.mk (show (pr.f1.take (t + 1)).map (symT G.kinds.length (numT G)) = (pr.f1.take t).map (symT G.kinds.length (numT G)) ++ [symT G.kinds.length (numT G) (rd pr.f1 (t : Int))] from mapT_succ hltt)
                        have HLNN := Aside0.mk (show ((pr.f1.take t).map (symT G.kinds.length (numT G))).length ≤ 64 by rw [List.length_map, List.length_take]; omega)
                        generalize rd pr.f1 (t : Int) = x at y hsy HTK
                        clear hx
                        obtain ⟨hx1, hx2⟩ := hsy
                        obtain ⟨e0, e1, e2, e3, e4⟩ := (HW4.out.go HFT.out).cells
                        go_wp2_with (fail)
                        refine (isRule_calls _ G (some A0s) (some A1s) A2 (some ad) c0 c1 c2 c3 (HG.out.go (HW4.out.go HFT.out).fr) hK2 x hx1 (by omega)).mono ?_
                        rintro e W14 ⟨rfl, hF14⟩
                        have HS14 := Aside0.mk (HS.out.go hF14)
                        have HFT14 := Aside0.mk (HFT.out.trans hF14 (fun _ _ h => h))
                        have HFR14 := Aside0.mk (HFR.out.trans hF14 (fun _ _ h => h))
                        clear HS HFT HFR hF14 e0 e1 e2 e3 e4 y
                        by_cases hxk : x < G.kinds.length
                        · rw [if_pos hxk]
                          have HSY := Aside0.mk (show symT G.kinds.length (numT G) x = x from if_pos hxk)
                          rw [HSY.out] at HTK
                          have hbw := HS14.out.fr.size
                          have q1 := (blk_cell HS14.out.box 1).trans (show _ = some (Value.slice QA qn qc) from rfl)
                          clear HFT14
                          go_wp2_with (first | ((with_reducible refine gate_builtin (b := .append) (xs := #[.tmp 136, .tmp 138]) rfl ?_); at_builtin; refine Kd.R_append kI (w0 := W14) wc.heap.size rfl (.tmp 136) (.tmp 138) 27 3 (.int .i64 0) 8 rfl Try.underlying27 info3 rfl (by decide) (by omega) _ ((pr.f1.take t).map (symT G.kinds.length (numT G))) x [.int .i64 x] (fun _ => True) (fun _ => False) rfl rfl rfl (fun _ hf => hf.elim) (fun _ _ => trivial) HS14.out.row (Below.refl _ _) hbw (by have := HLNN.out; omega) ?_; intro v8 W15 h8 hb8 hg8 hat8; obtain ⟨QA8, qc8, rfl⟩ := Kd.R_slice h8; generalize ((pr.f1.take t).map (symT G.kinds.length (numT G)) ++ [x]).length = qn8 at h8 ⊢; have HS15 := Aside0.mk (HS14.out.app hq12 h8 hg8); have HBX := Aside0.mk (HS14.out.boxg hq12 hg8); have q2 := (blk_cell HBX.out 1).trans (show _ = some (Value.slice QA qn qc) from rfl); have q2f := blk_frozen HBX.out 1; clear h8 hb8 hg8 hat8))
                          rw [← HTK.out] at HS15
                          exact ⟨⟨t + 1, qn8, QA8, qc8, by go_num, HLTT.out, HS15⟩, by have := HLTT.out; simp [intOf]; omega⟩
                        · rw [if_neg hxk]
                          have HSY := Aside0.mk (show symT G.kinds.length (numT G) x = G.kinds.length + rd (numT G) (x - G.kinds.length) from if_neg hxk)
                          rw [HSY.out] at HTK
                          have hnb := numL_bound (kpT G) G.rules.length G.rules.length (x - G.kinds.length)
                          rw [show numL (kpT G) G.rules.length G.rules.length = numT G from rfl] at hnb
                          have hn := HFR14.out.cell (HTB.out.fr.cell (Kd.R_celln (0 : Int) HNU9.out (x - G.kinds.length) (by omega) (by omega)).1 HGO.out) id
                          have hn2 : W14.cell? ⟨gn, (x - G.kinds.length).toNat, none⟩ = some (.int .i64 (rd (numT G) (x - G.kinds.length))) := hn
                          clear hn
                          generalize rd (numT G) (x - G.kinds.length) = nv at hn2 HTK hnb HSY
                          obtain ⟨hnb1, hnb2⟩ := hnb
                          have hwr : wrap64 ((G.kinds.length : Int) + nv) = G.kinds.length + nv := by simp only [wrap64]; omega
                          have e0 := (HW4.out.go HFT14.out).cells.1
                          clear HFT14 HFR14
                          have HI0 := Aside0.mk (show 0 ≤ x - (G.kinds.length : Int) ∧ x - (G.kinds.length : Int) < G.rules.length from ⟨by omega, by omega⟩)
                          obtain ⟨hi0, hi1⟩ := HI0.out
                          generalize x - (G.kinds.length : Int) = xi at hn2 hi0 hi1 ⊢
                          go_wp2_with (fail)
                          go_region
                          have HSD := Aside0.mk (HS14.out.go ((Fr.refl (fun _ => False) W14).drew))
                          clear HS14 hn2 e0
                          generalize W14.drew = W16 at HSD ⊢
                          have hbw := HSD.out.fr.size
                          have q1 := (blk_cell HSD.out.box 1).trans (show _ = some (Value.slice QA qn qc) from rfl)
                          go_wp2_with (first | ((with_reducible refine gate_builtin (b := .append) (xs := #[.tmp 136, .tmp 138]) rfl ?_); at_builtin; refine Kd.R_append kI (w0 := W16) wc.heap.size rfl (.tmp 136) (.tmp 138) 27 3 (.int .i64 0) 8 rfl Try.underlying27 info3 rfl (by decide) (by omega) _ ((pr.f1.take t).map (symT G.kinds.length (numT G))) ((G.kinds.length : Int) + nv) [.int .i64 ((G.kinds.length : Int) + nv)] (fun _ => True) (fun _ => False) rfl rfl rfl (fun _ hf => hf.elim) (fun _ _ => trivial) HSD.out.row (Below.refl _ _) hbw (by have := HLNN.out; omega) ?_; intro v8 W15 h8 hb8 hg8 hat8; obtain ⟨QA8, qc8, rfl⟩ := Kd.R_slice h8; generalize ((pr.f1.take t).map (symT G.kinds.length (numT G)) ++ [(G.kinds.length : Int) + nv]).length = qn8 at h8 ⊢; have HS15 := Aside0.mk (HSD.out.app hq12 h8 hg8); have HBX := Aside0.mk (HSD.out.boxg hq12 hg8); have q2 := (blk_cell HBX.out 1).trans (show _ = some (Value.slice QA qn qc) from rfl); have q2f := blk_frozen HBX.out 1; clear h8 hb8 hg8 hat8))
                          rw [← HTK.out] at HS15
                          exact ⟨⟨t + 1, qn8, QA8, qc8, by go_num, HLTT.out, HS15⟩, by have := HLTT.out; simp [intOf]; omega⟩
                      · obtain rfl : t = pr.f1.length := by omega
                        have hTk : pr.f1.take pr.f1.length = pr.f1 := List.take_length
                        rw [hTk] at HS
                        have HTW := Aside0.mk (HTB.out.go HFR.out)
                        have q0 := (blk_cell HS.out.box 0).trans (show _ = some (Value.int .i64 (rd (numT G) pr.f0)) from rfl)
                        have q1 := (blk_cell HS.out.box 1).trans (show _ = some (Value.slice QA qn qc) from rfl)
                        have q2 := (blk_cell HS.out.box 2).trans (show _ = some (Value.int .i64 pr.f2) from rfl)
                        have q3 := (blk_cell HS.out.box 3).trans (show _ = some (Value.int .i64 pr.f3.f0) from rfl)
                        have q4 := (blk_cell HS.out.box 4).trans (show _ = some (Value.int .i64 pr.f3.f1) from rfl)
                        have q5 := (blk_cell HS.out.box 5).trans (show _ = some (Value.string pr.f3.f2) from rfl)
                        have q6 := (blk_cell HS.out.box 6).trans (show _ = some (Value.slice CA pr.f3.f3.length cc) from rfl)
                        have o3 := (blk_cell HTW.out.box 3).trans (show _ = some (Value.slice DA n dc) from rfl)
                        have HG6 := Aside0.mk (show k55.R 55 wr W9.heap.size (fun k => W11.heap.size ≤ k) (.slice CA pr.f3.f3.length cc) pr.f3.f3 from by
                          have h1 := Kd.R_types (Kd.R_bound HR12.out) HBQ.out (by decide)
                          have h2 := HS.out.fr.R h1 (fun k hk => hk.2)
                          exact Kd.R_mono (Kd.R_lower h2 hs49) (fun k hk => hk.1.2.1))
                        have HG1 := Aside0.mk (show kI.R 3 wr W9.heap.size (fun k => W11.heap.size ≤ k) (.slice QA qn qc) (pr.f1.map (symT G.kinds.length (numT G))) from
                          Kd.R_mono (Kd.R_lower (Kd.R_bound HS.out.row) (Nat.le_trans hs49 hs11)) (fun k hk => Nat.le_trans hs11 hk.2.1))
                        have HM := Aside0.mk (k57_mkM wr W9.heap.size (fun k => W11.heap.size ≤ k) (prodT G.kinds.length (numT G) pr) HG1.out HG6.out)
                        have HOK := Aside0.mk (show ∀ k, W11.heap.size ≤ k → True ∧ some k ≠ (Value.slice DA n dc).ownBlock from fun k hk => ⟨trivial, fun e => by have := Kd.R_lt HTB.out.prd k e.symm; omega⟩)
                        have HLQ := Aside0.mk (show (prodsL G.kinds.length (staysT G) (numT G) (G.prods.take i)).length ≤ 4096 from Nat.le_trans (prodsL_len _ _ _ _) (by rw [List.length_take]; omega))
                        have hbw := HTW.out.fr.size
                        clear HG1 HG6 HS HR12 HBQ HFT HFR HF12 HTB
                        go_wp2_with (first | ((with_reducible refine gate_builtin (b := .append) (xs := #[.tmp 143, .tmp 145]) rfl ?_); at_builtin; refine Kd.R_append k57 (w0 := wr) W9.heap.size rfl (.tmp 143) (.tmp 145) 24 57 (.agg #[(.int .i64 0), (.slice none 0 0), (.int .i64 0), (.int .i64 0), (.int .i64 0), (.string ⟨#[]⟩), (.slice none 0 0)]) 96 rfl Try.underlying24 info57 rfl (by decide) (by omega) _ (prodsL G.kinds.length (staysT G) (numT G) (G.prods.take i)) (prodT G.kinds.length (numT G) pr) [.int .i64 (rd (numT G) pr.f0), .slice QA qn qc, .int .i64 pr.f2, .int .i64 pr.f3.f0, .int .i64 pr.f3.f1, .string pr.f3.f2, .slice CA pr.f3.f3.length cc] (fun _ => True) (fun k => W11.heap.size ≤ k) rfl rfl HM.out HOK.out (fun _ _ => trivial) HTW.out.prd (Below.refl _ _) hbw (by have := HLQ.out; omega) ?_; intro v8 W15 h8 hb8 hg8 hat8; obtain ⟨DA8, dc8, rfl⟩ := Kd.R_slice h8; generalize (prodsL G.kinds.length (staysT G) (numT G) (G.prods.take i) ++ [prodT G.kinds.length (numT G) pr]).length = n8 at h8 ⊢; have HT15 := Aside0.mk (HTW.out.app ho9 h8 hg8); have HBX := Aside0.mk (HTW.out.boxg ho9 hg8); have o4 := (blk_cell HBX.out 3).trans (show _ = some (Value.slice DA n dc) from rfl); have o4f := blk_frozen HBX.out 3; clear h8 hb8 hg8 hat8))
                        rw [← HTN.out] at HT15
                        exact ⟨⟨i + 1, n8, DA8, dc8, by go_num, HLT.out, HT15⟩, by have := HLT.out; simp [intOf]; omega⟩
              · obtain rfl : i = G.prods.length := by omega
                have hTk : G.prods.take G.prods.length = G.prods := List.take_length
                rw [hTk] at HT
                have o0 := (blk_cell HT.out.box 0).trans (show _ = some (Value.slice KA G.kinds.length kc) from rfl)
                have o1 := (blk_cell HT.out.box 1).trans (show _ = some (Value.slice PA G.precs.length pc) from rfl)
                have o2 := (blk_cell HT.out.box 2).trans (show _ = some (Value.slice RA (numF (kpT G) G.rules.length) rc) from rfl)
                have o3 := (blk_cell HT.out.box 3).trans (show _ = some (Value.slice DA n dc) from rfl)
                have o4 := (blk_cell HT.out.box 4).trans (show _ = some (Value.int .i64 st) from rfl)
                have hw4 := HW4.out.fr.size
                have hs9 := HF9.out.size
                have HFin := HF9.out.trans HT.out.fr (fun i _ e => .inl e)
                have hkin := Kd.R_mono (Kd.R_lower (HFin.R (Kd.R_below (Kd.R_bound (Kd.R_types HL.out.kin HL.out.box (by decide))) HF5.out.to_below) (fun k hk e => by
                  rcases e with e | e
                  · exact hk.1.2 e
                  · have := hk.2.2.1; omega)) hw4) (fun _ _ => (trivial : True))
                have hpre := Kd.R_mono (Kd.R_lower (HFin.R (Kd.R_below (Kd.R_bound (Kd.R_types HL.out.pre HL.out.box (by decide))) HF5.out.to_below) (fun k hk e => by
                  rcases e with e | e
                  · exact hk.1.2 e
                  · have := hk.2.2.1; omega)) hw4) (fun _ _ => (trivial : True))
                have hrul := Kd.R_mono (Kd.R_lower (HT.out.fr.R (Kd.R_types HRL9.out HBX9.out (by decide)) (fun k hk e => hk.2 e)) (show w.heap.size ≤ _ by omega)) (fun _ _ => (trivial : True))
                have hprd := Kd.R_lower HT.out.prd (show w.heap.size ≤ _ by omega)
                have hRl : numF (kpT G) G.rules.length = (trimG G).rules.length := (rulesL_len _ _ _).symm
                have hPl : n = (trimG G).prods.length := (Kd.R_reads' HT.out.prd).1
                have hSt : st = (trimG G).start := HST.out.symm
                have HBR := Aside0.mk (HFW.out.blk HB4.out id)
                have HPO := Aside0.mk (show TrimPost w G (.returned (.tuple #[.agg #[.slice KA G.kinds.length kc, .slice PA G.precs.length pc, .slice RA (numF (kpT G) G.rules.length) rc, .slice DA n dc, .int .i64 st], .int .i64 0])) (wr.setRow (w.heap.size + 1) #[.slice KA G.kinds.length kc, .slice PA G.precs.length pc, .slice RA (numF (kpT G) G.rules.length) rc, .slice DA n dc, .int .i64 st]) from .inr (.inr ⟨HC.out, HPS.out, KA, PA, RA, DA, kc, pc, rc, dc, by rw [hRl, hPl, hSt]; rfl, R_rowP hkin HBR.out (by decide) _, R_rowP hpre HBR.out (by decide) _, by rw [← hRl]; exact R_rowP hrul HBR.out (by decide) _, by rw [← hPl]; exact R_rowP hprd HBR.out (by decide) _⟩))
                have HFE := Aside0.mk (fr_row (HW4.out.fr.trans HFW.out (fun _ _ h => h)) (q := w.heap.size + 1) #[.slice KA G.kinds.length kc, .slice PA G.precs.length pc, .slice RA (numF (kpT G) G.rules.length) rc, .slice DA n dc, .int .i64 st] (fun h => by omega))
                have HBE := Aside0.mk (setRow_heap wr (w.heap.size + 1) zP #[.slice KA G.kinds.length kc, .slice PA G.precs.length pc, .slice RA (numF (kpT G) G.rules.length) rc, .slice DA n dc, .int .i64 st] 26 (0, 0) HBR.out)
                clear hkin hpre hrul hprd hRl hPl hSt hTk HT HRL9 HNU9 HBX9 HL HF5 HFin
                go_wp2_with (first | ((with_reducible refine gate_store (t := 26) (p := 2) (v := .tmp 149) rfl ?_); refine wpList_store_row rfl 26 (.tmp 2) (.tmp 149) rfl (w.heap.size + 1) #[.slice KA G.kinds.length kc, .slice PA G.precs.length pc, .slice RA (numF (kpT G) G.rules.length) rc, .slice DA n dc, .int .i64 st] rfl rfl 26 zP HBR.out info5P rfl (cellsP _ _ _ _ _ _ _ _ _ _ _ _ _) ?_))
                (try simp only [Exit.inBlock, Exit.then])
                refine bodyPost_ret (v := .tuple #[.agg #[.slice KA G.kinds.length kc, .slice PA G.precs.length pc, .slice RA (numF (kpT G) G.rules.length) rc, .slice DA n dc, .int .i64 st], .int .i64 0]) ?hr2 ?hd2 ?hR2
                case hr2 => exact (results_cell_row_tmp (p := 2) (u := 3) (ty := 26) (by rfl) _ _ (w.heap.size + 1) 26 #[.slice KA G.kinds.length kc, .slice PA G.precs.length pc, .slice RA (numF (kpT G) G.rules.length) rc, .slice DA n dc, .int .i64 st] (0, 0) _ (by rfl) HBE.out hu (by rfl) info5P).trans (by rfl)
                case hd2 => rfl
                exact ⟨HPO.out, HFE.out⟩
  · have HN := Aside0.mk (show ¬ CheckOk G from fun h => hr0 (hr1.2 h))
    obtain rfl : r = 130 := hr2.resolve_left hr0
    clear hr1 hr2
    have HFE := Aside0.mk (fr_row HW1.out.fr (q := w.heap.size + 1) zP (fun h => by omega))
    have HBE := Aside0.mk (setRow_heap W1 (w.heap.size + 1) zP zP 26 (0, 0) HB1.out)
    go_wp2_with (first | ((with_reducible refine gate_store (t := 26) (p := 2) (v := .tmp 22) rfl ?_); refine wpList_store_row rfl 26 (.tmp 2) (.tmp 22) rfl (w.heap.size + 1) zP rfl rfl 26 zP HB1.out info5P rfl (cellsP _ _ _ _ _ _ _ _ _ _ _ _ _) ?_))
    (try simp only [Exit.inBlock, Exit.then])
    refine bodyPost_ret (v := .tuple #[.agg zP, .int .i64 130]) ?hr ?hd ?hR
    case hr => exact (results_cell_row_tmp (p := 2) (u := 3) (ty := 26) (by rfl) _ _ (w.heap.size + 1) 26 zP (0, 0) _ (by rfl) HBE.out hu (by rfl) info5P).trans (by rfl)
    case hd => rfl
    exact ⟨.inl ⟨HN.out, rfl⟩, HFE.out⟩
end Go.Proofs.Ytdngobjcdajogaa.Gram
