/-
In a trimmed grammar all is of use, and trimming it again turns nothing: quoinlaw12.GramTrimmed, walked.
-/
import Derived.Test.YtdngobjcdajogaaT7UC
import Derived.Test.YtdngobjcdajogaaT7QM
import Derived.Test.YtdngobjcdajogaaT7QO
namespace Go.Proofs.Ytdngobjcdajogaa.Gram
open Go.RowKit Go.Proofs.YtdngobjcdajogaaW.PrintWords Go.Proofs.YtdngobjcdajogaaW.PrintLast Go.Proofs.YtdngobjcdajogaaW.PrintMore Go.Proofs.Ytdngobjcdajogaa.Fr Go.Proofs.Ytdngobjcdajogaa.PGramFirsts Go.Proofs.Ytdngobjcdajogaa.TextSet
theorem trim_mem {G : Gr} {s : ByteArray} (h : s ∈ (trimG G).rules) : s ∈ G.rules := by
  obtain ⟨a, ha, rfl⟩ := List.mem_map.1 (show s ∈ ((List.range G.rules.length).filter (kpT G)).map (fun a => rdS G.rules a) from h)
  have := List.mem_range.1 (List.mem_filter.1 ha).1
  simp [rdS, rdOf, List.getD_eq_getElem?_getD, this]
/-- The grammar that was answered is one. -/
theorem trim_at {w W : World} {G : Gr} {A0 A1 A2 A3 : Option Addr} {c0 c1 c2 c3 : Nat} (h : GAt w G A0 A1 A2 A3 c0 c1 c2 c3) {B : Nat} {KA PA RA DA : Option Addr} {kc pc rc dc : Nat} (hK : Kd.string.R 9 W B (fun _ => True) (.slice KA (trimG G).kinds.length kc) (trimG G).kinds) (hP : k73.R 73 W B (fun _ => True) (.slice PA (trimG G).precs.length pc) (trimG G).precs)
    (hR : Kd.string.R 9 W B (fun _ => True) (.slice RA (trimG G).rules.length rc) (trimG G).rules) (hD : k57.R 57 W B (fun _ => True) (.slice DA (trimG G).prods.length dc) (trimG G).prods) : GAt W (trimG G) KA PA RA DA kc pc rc dc :=
  ⟨(Kd.R_reads' hK).2.2, (Kd.R_reads' hP).2.2, (Kd.R_reads' hR).2.2, (Kd.R_reads' hD).2.2, (Kd.R_reads' hK).2.1, (Kd.R_reads' hP).2.1, (Kd.R_reads' hR).2.1, (Kd.R_reads' hD).2.1, h.ok, fun s hs => h.ok2 s (trim_mem hs)⟩
/-- What stands behind the first trim: the grammar's box, and that of the trimmed one. -/
structure TgW (w W : World) (G T : Gr) (A0 A1 A2 A3 KA PA RA DA : Option Addr) (c0 c1 c2 c3 kc pc rc dc b q : Nat) : Prop where
  fr : Fr (fun _ => False) w W
  b1 : W.heap[b]? = some (.cells (rowG G A0 A1 A2 A3 c0 c1 c2 c3) 26)
  b2 : W.heap[q]? = some (.cells (rowG T KA PA RA DA kc pc rc dc) 26)
  gt : GAt W T KA PA RA DA kc pc rc dc
theorem TgW.go {w W W1 : World} {G T : Gr} {A0 A1 A2 A3 KA PA RA DA : Option Addr} {c0 c1 c2 c3 kc pc rc dc b q : Nat} (h : TgW w W G T A0 A1 A2 A3 KA PA RA DA c0 c1 c2 c3 kc pc rc dc b q) (hF : Fr (fun _ => False) W W1) : TgW w W1 G T A0 A1 A2 A3 KA PA RA DA c0 c1 c2 c3 kc pc rc dc b q := ⟨h.fr.trans hF (fun _ _ h => h), hF.blk h.b1 id, hF.blk h.b2 id, h.gt.go hF⟩
theorem boxG {W : World} {p : Nat} {G : Gr} {A0 A1 A2 A3 : Option Addr} {c0 c1 c2 c3 : Nat} (h : W.heap[p]? = some (.cells (rowG G A0 A1 A2 A3 c0 c1 c2 c3) 26)) :
    W.cell? ⟨p, 0, none⟩ = some (.slice A0 G.kinds.length c0) ∧ W.cell? ⟨p, 1, none⟩ = some (.slice A1 G.precs.length c1) ∧ W.cell? ⟨p, 2, none⟩ = some (.slice A2 G.rules.length c2) ∧ W.cell? ⟨p, 3, none⟩ = some (.slice A3 G.prods.length c3) ∧ W.cell? ⟨p, 4, none⟩ = some (.int .i64 G.start) :=
  ⟨(blk_cell h 0).trans rfl, (blk_cell h 1).trans rfl, (blk_cell h 2).trans rfl, (blk_cell h 3).trans rfl, (blk_cell h 4).trans rfl⟩
set_option maxHeartbeats 8000000 in
set_option maxRecDepth 100000 in
theorem trimmed_calls (w : World) (G : Gr) (A0 A1 A2 A3 : Option Addr) (c0 c1 c2 c3 : Nat) (h : GAt w G A0 A1 A2 A3 c0 c1 c2 c3) :
    Calls Try.prog 4 #[.agg (rowG G A0 A1 A2 A3 c0 c1 c2 c3)] w fun e w' => e = .returned (.bool true) ∧ Fr (fun _ => False) w w' := by
  have hu := Try.underlying26
  have hu3 := Try.underlying39
  have HG := Aside0.mk h
  have HB0 := Aside0.mk (blk_new w (.cells (rowG G A0 A1 A2 A3 c0 c1 c2 c3) 26))
  have HF0 := Aside0.mk ((Fr.refl (fun _ => False) w).alloc (.cells (rowG G A0 A1 A2 A3 c0 c1 c2 c3) 26))
  clear h
  go_enter Try.func4, Try.ntmps4
  go_upto_region 1 with fail
  generalize w.alloc (.cells (rowG G A0 A1 A2 A3 c0 c1 c2 c3) 26) = W0 at HB0 HF0 ⊢
  generalize w.heap.size = b at HB0 ⊢
  obtain ⟨e0, e1, e2, e3, e4⟩ := boxG HB0.out
  go_wp2_with (fail)
  refine (trim_calls W0 G A0 A1 A2 A3 c0 c1 c2 c3 (HG.out.go HF0.out)).mono ?_
  rintro e W1 ⟨hT, hF1⟩
  rcases hT with ⟨_, rfl⟩ | ⟨_, _, rfl⟩ | ⟨hc, hp, KA, PA, RA, DA, kc, pc, rc, dc, rfl, hK, hP, hR, hD⟩
  · have HFE := Aside0.mk (HF0.out.trans (hF1.alloc (.cells zP 26)) (fun _ _ h => h))
    clear e0 e1 e2 e3 e4 hF1
    go_wp2_with (fail)
    refine (awake_calls (W1.alloc (.cells zP 26))).mono ?_
    rintro e W7 ⟨rfl, hF7⟩
    have HF7 := Aside0.mk (HFE.out.trans hF7 (fun _ _ h => h))
    clear hF7
    go_wp2_with (fail)
    go_ret
    exact ⟨rfl, HF7.out⟩
  · have HFE := Aside0.mk (HF0.out.trans (hF1.alloc (.cells zP 26)) (fun _ _ h => h))
    clear e0 e1 e2 e3 e4 hF1
    go_wp2_with (fail)
    refine (awake_calls (W1.alloc (.cells zP 26))).mono ?_
    rintro e W7 ⟨rfl, hF7⟩
    have HF7 := Aside0.mk (HFE.out.trans hF7 (fun _ _ h => h))
    clear hF7
    go_wp2_with (fail)
    go_ret
    exact ⟨rfl, HF7.out⟩
  have HC := Aside0.mk hc
  have HC2 := Aside0.mk (trim_check hc hp)
  have HT2 := Aside0.mk (trim_trim hc hp)
  obtain ⟨_, hR1, hR2, hs0, hs1, hQ2⟩ := base_true (trim_check hc hp).base
  obtain ⟨_, gR1, gR2, gs0, gs1, gQ2⟩ := base_true hc.base
  have HLE := Aside0.mk (fun (L L' : List Int) (h1 : LeastOk G L) (h2 : LeastOk (trimG G) L') => trim_least hc hp h1 h2)
  have HPR := Aside0.mk (fun (a : Nat) (ha : a < (trimG G).rules.length) => trim_pro hc.prodsOk ha)
  have HRC := Aside0.mk (fun (a : Nat) (ha : a < (trimG G).rules.length) => trim_rch hc.prodsOk gs0 gs1 (fun _ => true) (fun _ _ => rfl) ha)
  have HPS := Aside0.mk (show rdOf false (proL (trimG G)) (trimG G).start = true from by have := trim_pro hc.prodsOk (G := G) (b := (trimG G).start.toNat) (by omega); rwa [Int.toNat_of_nonneg hs0] at this)
  have hGT := trim_at HG.out hK hP hR hD
  have HTG := Aside0.mk (show TgW w (W1.alloc (.cells (rowG (trimG G) KA PA RA DA kc pc rc dc) 26)) G (trimG G) A0 A1 A2 A3 KA PA RA DA c0 c1 c2 c3 kc pc rc dc b W1.heap.size from
    ⟨HF0.out.trans (hF1.alloc _) (fun _ _ h => h), (hF1.alloc _).blk HB0.out id, blk_new W1 _, hGT.go ((Fr.refl (fun _ => False) W1).alloc _)⟩)
  clear hK hP hR hD hGT hF1 HB0 HF0 e0 e1 e2 e3 e4 hc hp
  have HOKT := Aside0.mk (show ∀ {W : World} {B : Nat} {KA PA RA DA : Option Addr} {kc pc rc dc : Nat}, Kd.string.R 9 W B (fun _ => True) (.slice KA (trimG G).kinds.length kc) (trimG G).kinds → k73.R 73 W B (fun _ => True) (.slice PA (trimG G).precs.length pc) (trimG G).precs → Kd.string.R 9 W B (fun _ => True) (.slice RA (trimG G).rules.length rc) (trimG G).rules → k57.R 57 W B (fun _ => True) (.slice DA (trimG G).prods.length dc) (trimG G).prods → GAt W (trimG G) KA PA RA DA kc pc rc dc from fun h1 h2 h3 h4 => trim_at HG.out h1 h2 h3 h4)
  have hTT : ∀ {e : Ending} {W w' : World}, TrimPost W (trimG G) e w' → ∃ KA PA RA DA kc pc rc dc, e = .returned (.tuple #[.agg (rowG (trimG G) KA PA RA DA kc pc rc dc), .int .i64 0]) ∧ GAt w' (trimG G) KA PA RA DA kc pc rc dc := fun h => by
    rcases h with ⟨h1, _⟩ | ⟨_, h1, _⟩ | ⟨_, _, KA, PA, RA, DA, kc, pc, rc, dc, he, h1, h2, h3, h4⟩
    · exact absurd HC2.out h1
    · rw [HPS.out] at h1
      cases h1
    · rw [HT2.out] at he h1 h2 h3 h4
      exact ⟨KA, PA, RA, DA, kc, pc, rc, dc, he, HOKT.out h1 h2 h3 h4⟩
  have HTT := Aside0.mk @hTT
  clear hTT HOKT HPS HT2
  generalize trimG G = T at *
  go_upto_region 4 with fail
  generalize W1.alloc (.cells (rowG T KA PA RA DA kc pc rc dc) 26) = W2 at HTG ⊢
  generalize W1.heap.size = q at HTG ⊢
  obtain ⟨e0, e1, e2, e3, e4⟩ := boxG HTG.out.b1
  obtain ⟨f0, f1, f2, f3, f4⟩ := boxG HTG.out.b2
  go_wp2_with (fail)
  refine (trim_calls W2 T KA PA RA DA kc pc rc dc HTG.out.gt).mono ?_
  rintro e W3 ⟨hT, hF3⟩
  obtain ⟨LA, MA, NA, OA, lc, mc, nc, oc, rfl, hGU⟩ := HTT.out hT
  have HTG3 := Aside0.mk (HTG.out.go (hF3.alloc (.cells (rowG T LA MA NA OA lc mc nc oc) 26)))
  have HB5 := Aside0.mk (blk_new W3 (.cells (rowG T LA MA NA OA lc mc nc oc) 26))
  have HGU := Aside0.mk (hGU.go ((Fr.refl (fun _ => False) W3).alloc (.cells (rowG T LA MA NA OA lc mc nc oc) 26)))
  clear hT hF3 hGU HTT HTG e0 e1 e2 e3 e4 f0 f1 f2 f3 f4
  go_upto_region 5 with fail
  generalize W3.alloc (.cells (rowG T LA MA NA OA lc mc nc oc) 26) = W4 at HTG3 HB5 HGU ⊢
  generalize W3.heap.size = q5 at HB5 ⊢
  obtain ⟨f0, f1, f2, f3, f4⟩ := boxG HTG3.out.b2
  go_wp2_with (fail)
  refine (look_calls W4 T KA PA RA DA kc pc rc dc HTG3.out.gt).mono ?_
  rintro e W5 ⟨hLk, hF5⟩
  rcases hLk with ⟨hn, _⟩ | ⟨_, XA, xc, YA, yc, ZA, zc, CA, cc, FV, WV, cl, Fo, rfl, hX, hY, hZ, _, _, hFS, hWS, _⟩
  · exact absurd HC2.out hn
  obtain ⟨VA, va, rfl⟩ := Kd.S_slice hFS
  obtain ⟨UA, ua, rfl⟩ := Kd.S_slice hWS
  generalize (Fo.map (listI 0)).length = ul
  generalize ((firstL T).map (listI 0)).length = vl
  clear hFS hWS hX
  have HTG6 := Aside0.mk (HTG3.out.go (hF5.alloc (.cells #[.slice XA T.rules.length xc, .slice YA T.rules.length yc, .slice ZA T.rules.length zc, .slice CA T.rules.length cc, .slice VA vl va, .slice UA ul ua] 39)))
  have HB6 := Aside0.mk ((hF5.alloc (.cells #[.slice XA T.rules.length xc, .slice YA T.rules.length yc, .slice ZA T.rules.length zc, .slice CA T.rules.length cc, .slice VA vl va, .slice UA ul ua] 39)).blk HB5.out id)
  have HGU6 := Aside0.mk (HGU.out.go (hF5.alloc (.cells #[.slice XA T.rules.length xc, .slice YA T.rules.length yc, .slice ZA T.rules.length zc, .slice CA T.rules.length cc, .slice VA vl va, .slice UA ul ua] 39)))
  have HRB := Aside0.mk (blk_new W5 (.cells #[.slice XA T.rules.length xc, .slice YA T.rules.length yc, .slice ZA T.rules.length zc, .slice CA T.rules.length cc, .slice VA vl va, .slice UA ul ua] 39))
  have HY := Aside0.mk (Kd.R_alloc hY (.cells #[.slice XA T.rules.length xc, .slice YA T.rules.length yc, .slice ZA T.rules.length zc, .slice CA T.rules.length cc, .slice VA vl va, .slice UA ul ua] 39))
  have HZ := Aside0.mk (Kd.R_alloc hZ (.cells #[.slice XA T.rules.length xc, .slice YA T.rules.length yc, .slice ZA T.rules.length zc, .slice CA T.rules.length cc, .slice VA vl va, .slice UA ul ua] 39))
  clear hY hZ hF5 HTG3 HB5 HGU f0 f1 f2 f3 f4
  go_upto_region 6 with fail
  generalize W5.alloc (.cells #[.slice XA T.rules.length xc, .slice YA T.rules.length yc, .slice ZA T.rules.length zc, .slice CA T.rules.length cc, .slice VA vl va, .slice UA ul ua] 39) = W6 at HTG6 HB6 HGU6 HRB HY HZ ⊢
  generalize W5.heap.size = q7 at HRB ⊢
  obtain ⟨f0, f1, f2, f3, f4⟩ := boxG HTG6.out.b2
  obtain ⟨g0, g1, g2, g3, g4⟩ := boxG HB6.out
  go_wp2_with (fail)
  refine (sameG_calls W6 T KA PA RA DA LA MA NA OA kc pc rc dc lc mc nc oc HTG6.out.gt HGU6.out HC2.out.same).mono ?_
  rintro e W7 ⟨rfl, hF7⟩
  have HTG7 := Aside0.mk (HTG6.out.go hF7)
  have HRB7 := Aside0.mk (hF7.blk HRB.out id)
  have HY7 := Aside0.mk (Kd.R_below HY.out hF7.to_below)
  have HZ7 := Aside0.mk (Kd.R_below HZ.out hF7.to_below)
  clear hF7 HTG6 HB6 HGU6 HRB HY HZ f0 f1 f2 f3 f4 g0 g1 g2 g3 g4
  obtain ⟨f0, f1, f2, f3, f4⟩ := boxG HTG7.out.b2
  obtain ⟨gy, ky, ey⟩ := marks_form HY7.out (by rw [closedL_length]; omega)
  injection ey with ey1 ey2 ey3
  subst ey1
  obtain ⟨gz, kz, ez⟩ := marks_form HZ7.out (by rw [reachL_length]; omega)
  injection ez with ez1 ez2 ez3
  subst ez1
  have q1 := (blk_cell HRB7.out 1).trans (show _ = some (Value.slice (some ⟨gy, 0, none⟩) T.rules.length yc) from rfl)
  have q2 := (blk_cell HRB7.out 2).trans (show _ = some (Value.slice (some ⟨gz, 0, none⟩) T.rules.length zc) from rfl)
  clear ey2 ey3 ez2 ez3
  go_wp2_with (fail)
  go_loopw [9] (fun a W => ∃ (i : Nat), a = .int .i64 i ∧ i ≤ T.rules.length ∧ W = W7) (fun a _ => T.rules.length - (intOf a).toNat)
  case atStart => exact ⟨0, rfl, Nat.zero_le _, rfl⟩
  case round =>
    obtain ⟨i, rfl, hi, rfl⟩ := hrel
    by_cases hlt : i < T.rules.length
    · have HLT := Aside0.mk hlt
      have y1 := (marks_at HY7.out (i := (i : Int)) (by omega) (by omega)).1
      have z1 := (marks_at HZ7.out (i := (i : Int)) (by omega) (by omega)).1
      rw [show rdOf false (closedL T true) (i : Int) = true from HPR.out i hlt] at y1
      rw [show rdOf false (reachL T fun _ => true) (i : Int) = true from HRC.out i hlt] at z1
      simp only [Int.toNat_natCast] at y1 z1
      go_wp2_with (fail)
      exact ⟨⟨i + 1, by go_num, HLT.out, trivial⟩, by have := HLT.out; simp [intOf]; omega⟩
    · obtain rfl : i = T.rules.length := by omega
      clear q1 q2 HY7 HZ7 HPR HRC HRB7
      go_wp2_with (fail)
      refine (least_calls wr T KA PA RA DA kc pc rc dc HTG7.out.gt T.start).mono ?_
      rintro e W8 ⟨⟨n, sm, r, rfl, h1, _, h3⟩, hF8⟩
      obtain rfl : r = 0 := h1.2 ⟨HC2.out, hs0, hs1⟩
      obtain ⟨L', hL', hn, hsm⟩ := h3 rfl
      have HN8 := Aside0.mk hn
      have HS8 := Aside0.mk hsm
      clear hn hsm
      have HTG8 := Aside0.mk (HTG7.out.go hF8)
      clear hF8 HTG7 h1 h3 f0 f1 f2 f3 f4
      obtain ⟨e0, e1, e2, e3, e4⟩ := boxG HTG8.out.b1
      go_wp2_with (fail)
      refine (least_calls W8 G A0 A1 A2 A3 c0 c1 c2 c3 (HG.out.go HTG8.out.fr) G.start).mono ?_
      rintro e W9 ⟨⟨m, sl, r, rfl, h1, _, h3⟩, hF9⟩
      obtain rfl : r = 0 := h1.2 ⟨HC.out, gs0, gs1⟩
      obtain ⟨L, hL, hm, hsl⟩ := h3 rfl
      have HF9 := Aside0.mk (HTG8.out.fr.trans hF9 (fun _ _ h => h))
      have hn := HN8.out
      have hsm := HS8.out
      obtain ⟨hE, hE0⟩ := HLE.out L L' hL hL'
      clear HN8 HS8
      rw [hE] at hn hsm
      obtain rfl : m = n := by rw [hm, hn]
      obtain rfl : sm = true := by rw [hsm]; exact decide_eq_true hE0
      obtain rfl : sl = true := by rw [hsl]; exact decide_eq_true hE0
      clear hF9 HTG8 h1 h3 e0 e1 e2 e3 e4 hn hm hE hE0 hL hL' hsm hsl HLE
      go_wp2_with (fail)
      refine (awake_calls W9).mono ?_
      rintro e W10 ⟨rfl, hF10⟩
      have HFX := Aside0.mk (HF9.out.trans hF10 (fun _ _ h => h))
      clear hF10
      go_wp2_with (fail)
      go_ret
      exact ⟨rfl, HFX.out⟩
end Go.Proofs.Ytdngobjcdajogaa.Gram
namespace Go.Proofs.Ytdngobjcdajogaa.RowTrimmed
open Go.ChangeShapes Go.WideShapes Go.ChangeAt Go.RowKit
open Go.Proofs.YtdngobjcdajogaaW.PrintWords Go.Proofs.Ytdngobjcdajogaa.Op Go.Proofs.Ytdngobjcdajogaa.Fr Go.Proofs.Ytdngobjcdajogaa.Gram Go.Proofs.Ytdngobjcdajogaa.OpPlain
set_option maxRecDepth 100000 in
theorem lifted (os : Os) (started : os.Started) (H : Type) (enc : TypeId × Value → H) :
    ReturnsInHanded {} Try.checked os 4 .any (Rows.gramTrimmedSpec.pre6 enc Try.prog Try.f4 Rows.gramTrimmedRow.domain false) (Rows.gramTrimmedSpec.post enc Try.prog Try.f4 false true false false) := by
  refine returnsInHanded_of_change_sized (C := Try.checked) own started (by kernel_rfl) Try.func4
    (ChangeSpec.witness6 (enc := enc) (C := Try.checked) false ⟨#[], #[.agg #[.slice none 0 0, .slice none 0 0, .slice none 0 0, .slice none 0 0, .int .i64 0]], []⟩ 8 (by kernel_rfl) (by kernel_rfl) (by kernel_rfl) (by kernel_rfl)) ?_
  intro W base args ds gs before hval0 hW _ hsz0 _
  have hval : ∀ (j : Nat) t v, Try.f4.params[j]? = some t → args[j]? = some v → Value.okWide Try.prog W .any base t v := hval0
  have hW' := hW
  obtain ⟨p, q, hA0, hV, rfl, _, _⟩ := hW
  have hA : DataW.TrodAll enc Try.prog W 0 (fun _ => true) true Try.f4.params.toList args.toList ds p := hA0
  have hA1 := hA
  rw [Try.params4] at hA hA1 hval
  obtain ⟨v0, vs0, d0, ds0, p0, q0, hargs, rfl, rfl, h0, r0⟩ := trodAll_cons hA
  obtain ⟨rfl, rfl, rfl⟩ := trodAll_nil r0
  obtain rfl : args = #[v0] := by cases args; simp_all
  obtain ⟨rfl, rfl⟩ := trodVars_none hV
  obtain ⟨G, A0, A1, A2, A3, c0, c1, c2, c3, rfl, hG⟩ := plain_arg (hval 0 26 v0 rfl rfl) h0
  clear hA0 hval0 hsz0
  refine (trimmed_calls W G A0 A1 A2 A3 c0 c1 c2 c3 hG).mono fun e W' ⟨he, hF⟩ => ?_
  have bel := hF.to_below
  subst he
  exact ⟨_, rfl, _, _, _, [], _, [], hW', trodAll_mk1 (shut_bool Try.underlying4 _), all_below laidOut bel _ _ _ _ (by kernel_rfl) hA1, rfl, bel.frame _, fun h => by cases h⟩
theorem over : Rows.gramTrimmedRow.holds Try.pinned (OpenSpec.ofChange Rows.gramTrimmedSpec) :=
  OpenClaim.holds_of_wide 4 Try.f4 rfl rfl rfl rfl rfl rfl rfl ⟨rfl, rfl, rfl, rfl, rfl⟩ rfl rfl rfl rfl rfl (by kernel_rfl) Try.func4 (by kernel_rfl)
    (of_decide_eq_true (by kernel_rfl)) (by unfold Func.isWrapper; first | (rw [if_pos (by decide +kernel)]; kernel_rfl) | (rw [if_neg (by decide +kernel)]; exact ⟨rfl, rfl⟩))
    (fun os started H enc _ => lifted os started H enc)
theorem proved : Rows.GramTrimmedSaid := over
#print axioms proved
end Go.Proofs.Ytdngobjcdajogaa.RowTrimmed
namespace Go.Proofs.Ytdngobjcdajogaa
/-- The law of a trimmed grammar. -/
theorem gramTrimmed_holds : Rows.GramTrimmedSaid := RowTrimmed.proved
end Go.Proofs.Ytdngobjcdajogaa
