/-
The small grammar of the law's own look: what is known of it, by definition.
-/
import Derived.Test.YtdngobjcdajogaaT9QH
import Derived.Test.YtdngobjcdajogaaT9QG
import Derived.Test.YtdngobjcdajogaaT9QD
import Derived.Test.YtdngobjcdajogaaT9QL
namespace Go.Proofs.Ytdngobjcdajogaa.Gram
open Go.RowKit Go.Proofs.YtdngobjcdajogaaW.PrintWords Go.Proofs.YtdngobjcdajogaaW.PrintLast Go.Proofs.YtdngobjcdajogaaW.PrintMore Go.Proofs.Ytdngobjcdajogaa.Fr Go.Proofs.Ytdngobjcdajogaa.PGramFirsts Go.Proofs.Ytdngobjcdajogaa.TextSet
def a0 : S55 := ⟨0, 0, (⟨#[]⟩ : ByteArray), []⟩
def smallG : Gr where
  kinds := [(⟨#[101, 110, 100]⟩ : ByteArray), (⟨#[101, 114, 114, 111, 114]⟩ : ByteArray), (⟨#[97]⟩ : ByteArray), (⟨#[98]⟩ : ByteArray)]
  precs := List.replicate 4 z73
  rules := [(⟨#[83]⟩ : ByteArray), (⟨#[65]⟩ : ByteArray)]
  prods := [⟨0, [5, 3], 0, a0⟩, ⟨1, [2, 5], 0, a0⟩, ⟨1, [], 0, a0⟩]
  start := 0
theorem sm_p0 : rd_T57 smallG.prods ((0 : Nat) : Int) = ⟨0, [5, 3], 0, a0⟩ := rfl
theorem sm_p1 : rd_T57 smallG.prods ((1 : Nat) : Int) = ⟨1, [2, 5], 0, a0⟩ := rfl
theorem sm_p2 : rd_T57 smallG.prods ((2 : Nat) : Int) = ⟨1, [], 0, a0⟩ := rfl
theorem sm_k : smallG.kinds.length = 4 := rfl
theorem sm_r : smallG.rules.length = 2 := rfl
theorem sm_q : smallG.prods.length = 3 := rfl
theorem three {P : Nat → Prop} (h0 : P 0) (h1 : P 1) (h2 : P 2) : ∀ i : Nat, i < 3 → P i
  | 0, _ => h0
  | 1, _ => h1
  | 2, _ => h2
  | n + 3, h => by omega
theorem a0_ok (n : Int) : (partsF n a0 0).1 = true := by
  rw [partsF_eq]
  simp [a0, kidsF, ownF]
theorem small_ok : CheckOk smallG where
  kinds := ⟨by decide, by decide, by kernel_rfl, by kernel_rfl, fun s hs => by
    simp only [smallG, List.mem_cons, List.not_mem_nil, or_false] at hs
    rcases hs with rfl | rfl | rfl | rfl <;> kernel_rfl, by decide⟩
  base := by kernel_rfl
  prods := by
    rw [sm_q, sm_k, sm_r]
    refine three ?_ ?_ ?_
    · rw [sm_p0]
      exact ⟨by decide, by decide, by decide, by decide, fun j hj => by
        match j, hj with
        | 0, _ => exact ⟨by decide, by decide⟩
        | 1, _ => exact ⟨by decide, by decide⟩
        | n + 2, h => exact absurd (show n + 2 < 2 from h) (by omega), a0_ok _⟩
    · rw [sm_p1]
      exact ⟨by decide, by decide, by decide, by decide, fun j hj => by
        match j, hj with
        | 0, _ => exact ⟨by decide, by decide⟩
        | 1, _ => exact ⟨by decide, by decide⟩
        | n + 2, h => exact absurd (show n + 2 < 2 from h) (by omega), a0_ok _⟩
    · rw [sm_p2]
      exact ⟨by decide, by decide, by decide, by decide, fun j hj => by simp at hj, a0_ok _⟩
theorem small_null : closedL smallG false = [false, true] := by
  have hP := small_ok.prodsOk
  refine (closed_eq (marks := [false, true]) rfl ?_).symm
  have hc : ∀ i : Nat, i < smallG.prods.length → wholeF smallG.kinds.length [false, true] false (rd_T57 smallG.prods i).f1 = true → rdOf false [false, true] (rd_T57 smallG.prods i).f0 = true := by
    rw [sm_q]
    refine three ?_ ?_ ?_
    · intro h; exact absurd h (by decide)
    · intro h; exact absurd h (by decide)
    · intro _; rfl
  intro a ha
  refine ⟨fun h => ?_, fun h => der_done hP hc h⟩
  match a, ha with
  | 0, _ => exact absurd h (by decide)
  | 1, _ => exact Der.mk (G := smallG) (kinds := false) 2 (by decide) (fun j hj => by rw [sm_p2] at hj; simp at hj) (fun j hj => by rw [sm_p2] at hj; simp at hj)
  | n + 2, h2 => rw [sm_r] at h2; omega
theorem small_first : firstL smallG = [[false, false, true, true], [false, false, true, false]] := by
  have hP := small_ok.prodsOk
  have hD : Der smallG false 1 := (closedL_at (a := 1) (by decide)).1 (by rw [small_null]; rfl)
  have f12 : Fst smallG [2, 5] 2 := .kind 2 [5] (by decide)
  have fr1 : FstR smallG 1 2 := ⟨1, by decide, rfl, f12⟩
  have f02 : Fst smallG [5, 3] 2 := .rule 5 [3] 1 2 (by decide) (by decide) rfl f12
  have f03 : Fst smallG [5, 3] 3 := .skip 5 [3] 3 (by decide) hD (.kind 3 [] (by decide))
  refine (first_eq (F := [[false, false, true, true], [false, false, true, false]]) hP ⟨rfl, fun i hi => ?_⟩ (fun a t h => ?_) ?_).symm
  · match i, hi with
    | 0, _ => rfl
    | 1, _ => rfl
    | n + 2, h => rw [sm_r] at h; omega
  · match a with
    | 0 =>
      match t with
      | 0 => exact absurd h (by decide)
      | 1 => exact absurd h (by decide)
      | 2 => exact ⟨0, by decide, rfl, f02⟩
      | 3 => exact ⟨0, by decide, rfl, f03⟩
      | n + 4 => exact absurd (show false = true from h) (by decide)
    | 1 =>
      match t with
      | 0 => exact absurd h (by decide)
      | 1 => exact absurd h (by decide)
      | 2 => exact fr1
      | 3 => exact absurd h (by decide)
      | n + 4 => exact absurd (show false = true from h) (by decide)
    | n + 2 => exact absurd (show false = true from h) (by decide)
  · rw [sm_q]
    refine three ?_ ?_ ?_
    · intro t h
      rw [small_null, sm_p0] at h
      match t with
      | 0 => exact absurd h (by decide)
      | 1 => exact absurd h (by decide)
      | 2 => rfl
      | 3 => rfl
      | n + 4 => exact absurd (show false = true from h) (by decide)
    · intro t h
      rw [small_null, sm_p1] at h
      match t with
      | 0 => exact absurd h (by decide)
      | 1 => exact absurd h (by decide)
      | 2 => rfl
      | 3 => exact absurd h (by decide)
      | n + 4 => exact absurd (show false = true from h) (by decide)
    · intro t h
      rw [sm_p2] at h
      simp [begB] at h
theorem siz_one {G : Gr} {l : List Int} {n : Nat} (h : Siz G l n) : ∀ x, x ∈ l → x < G.kinds.length → 1 ≤ n := by
  induction h with
  | nil => intro x hx; cases hx
  | kind _ _ _ => intro x _ _; omega
  | rule hk _ _ _ _ _ ih =>
    intro x hx hlt
    rcases List.mem_cons.1 hx with rfl | hx
    · exact absurd hlt hk
    · have := ih x hx hlt
      omega
theorem small_least {L : List Int} (h : LeastOk smallG L) : rd L 0 = 1 := by
  have h4 : Siz smallG [(4 : Int)] 1 := by
    have hA : Siz smallG [5, 3] (0 + (0 + 1)) := .rule (i := 2) (by decide) (by decide) rfl (by rw [sm_p2]; exact .nil) (.kind (by decide) .nil)
    have := Siz.rule (G := smallG) (x := 4) (l := []) (i := 0) (by decide) (by decide) rfl hA .nil
    exact this
  obtain ⟨h1, h2⟩ := h.least 0 1 (by rw [sm_k]; exact h4)
  have h2 : rd L 0 ≤ 1 := h2
  have h1 : 0 ≤ rd L 0 := h1
  obtain ⟨n, hn, e⟩ := h.sound 0 (by decide) h1
  rw [sm_k] at hn
  obtain ⟨i, hi, hf, hr⟩ := hn.one (by decide)
  have e : rd L 0 = minF n := e
  rw [sm_q] at hi
  have h5 : 1 ≤ n := by
    match i, hi with
    | 0, _ => exact siz_one hr 3 (by rw [sm_p0]; decide) (by decide)
    | 1, _ => exact absurd hf (by decide)
    | 2, _ => exact absurd hf (by decide)
    | k + 3, h => omega
  have : minF n = n ∨ minF n = 65537 := by unfold minF; split <;> simp
  omega
end Go.Proofs.Ytdngobjcdajogaa.Gram
namespace Go.Proofs.Ytdngobjcdajogaa.Gram
open Go.RowKit Go.Proofs.YtdngobjcdajogaaW.PrintWords Go.Proofs.YtdngobjcdajogaaW.PrintLast Go.Proofs.YtdngobjcdajogaaW.PrintMore Go.Proofs.Ytdngobjcdajogaa.Fr Go.Proofs.Ytdngobjcdajogaa.PGramFirsts Go.Proofs.Ytdngobjcdajogaa.TextSet
theorem small_some : quoinlaw12_small.f = some (smallG.kinds, smallG.precs, smallG.rules, smallG.prods, smallG.start) := by
  unfold quoinlaw12_small.f
  rw [if_pos (by decide)]
  rfl
structure SmFacts (G : Gr) : Prop where
  ok : CheckOk G
  two : G.rules.length = 2
  nul : closedL G false = [false, true]
  fst : firstL G = [[false, false, true, true], [false, false, true, false]]
  least : ∀ L, LeastOk G L → rd L 0 = 1
theorem small_facts : SmFacts smallG := ⟨small_ok, rfl, small_null, small_first, fun _ h => small_least h⟩
set_option maxHeartbeats 4000000 in
set_option maxRecDepth 100000 in
theorem awake_calls (w : World) : Calls Try.prog 10 #[] w fun e w' => e = .returned (.bool true) ∧ Fr (fun _ => False) w w' := by
  have hu := Try.underlying26
  have hu3 := Try.underlying39
  go_enter Try.func10, Try.ntmps10
  go_wp2_with (fail)
  refine (quoinlaw12_small.calls smallG.kinds smallG.precs smallG.rules smallG.prods smallG.start w small_some).mono ?_
  rintro e W1 ⟨v0, v1, v2, v3, rfl, h0, h1, h2, h3, hB⟩
  obtain ⟨A0, c0, rfl, l0, g0⟩ := Kd.R_reads h0
  obtain ⟨A1, c1, rfl, l1, g1⟩ := Kd.R_reads h1
  obtain ⟨A2, c2, rfl, l2, g2⟩ := Kd.R_reads h2
  obtain ⟨A3, c3, rfl, l3, g3⟩ := Kd.N_reads h3
  have HG := Aside0.mk (show GAt W1 smallG A0 A1 A2 A3 c0 c1 c2 c3 from ⟨g0, g1, g2, g3, l0, l1, l2, l3, fun s hs => by
    simp only [smallG, List.mem_cons, List.not_mem_nil, or_false] at hs
    rcases hs with rfl | rfl | rfl | rfl <;> decide, fun s hs => by
    simp only [smallG, List.mem_cons, List.not_mem_nil, or_false] at hs
    rcases hs with rfl | rfl <;> decide⟩)
  have HF1 := Aside0.mk (Fr.of_below (S := fun _ => False) hB)
  have HS := Aside0.mk small_facts
  clear h0 h1 h2 h3 g0 g1 g2 g3 l0 l1 l2 l3 hB
  generalize smallG = G at HG HS ⊢
  go_upto_region 2 with fail
  have HBX := Aside0.mk (blk_new W1 (.cells #[.slice A0 G.kinds.length c0, .slice A1 G.precs.length c1, .slice A2 G.rules.length c2, .slice A3 G.prods.length c3, .int .i64 G.start] 26))
  have HF2 := Aside0.mk ((Fr.refl (fun _ => False) W1).alloc (.cells #[.slice A0 G.kinds.length c0, .slice A1 G.precs.length c1, .slice A2 G.rules.length c2, .slice A3 G.prods.length c3, .int .i64 G.start] 26))
  generalize W1.alloc (.cells #[.slice A0 G.kinds.length c0, .slice A1 G.precs.length c1, .slice A2 G.rules.length c2, .slice A3 G.prods.length c3, .int .i64 G.start] 26) = W2 at HBX HF2 ⊢
  generalize W1.heap.size = b1 at HBX ⊢
  have HG2 := Aside0.mk (HG.out.go HF2.out)
  have HF2 := Aside0.mk (HF1.out.trans HF2.out (fun _ _ h => h))
  have e0 := (blk_cell HBX.out 0).trans (show _ = some (Value.slice A0 G.kinds.length c0) from rfl)
  have e1 := (blk_cell HBX.out 1).trans (show _ = some (Value.slice A1 G.precs.length c1) from rfl)
  have e2 := (blk_cell HBX.out 2).trans (show _ = some (Value.slice A2 G.rules.length c2) from rfl)
  have e3 := (blk_cell HBX.out 3).trans (show _ = some (Value.slice A3 G.prods.length c3) from rfl)
  have e4 := (blk_cell HBX.out 4).trans (show _ = some (Value.int .i64 G.start) from rfl)
  clear HG HF1
  go_wp2_with (fail)
  refine (look_calls W2 G A0 A1 A2 A3 c0 c1 c2 c3 HG2.out).mono ?_
  rintro e W3 ⟨hL, hF3⟩
  rcases hL with ⟨hn, _⟩ | ⟨_, NA, nc, PA, pc, RA, rc, CA, cc, FV, WV, cl, Fo, rfl, hN, _, _, _, _, hFS, hWS, _⟩
  · exact absurd HS.out.ok hn
  obtain ⟨VA, va, rfl⟩ := Kd.S_slice hFS
  obtain ⟨UA, ua, rfl⟩ := Kd.S_slice hWS
  have HN := Aside0.mk hN
  have HFS := Aside0.mk hFS
  have HF3 := Aside0.mk hF3
  clear hN hFS hWS hF3 e0 e1 e2 e3 e4
  generalize hu1 : (Fo.map (listI 0)).length = ul
  generalize hv1 : ((firstL G).map (listI 0)).length = vl
  have HVL := Aside0.mk hv1
  clear hu1 hv1
  go_upto_region 3 with fail
  have HR := Aside0.mk (blk_new W3 (.cells #[.slice NA G.rules.length nc, .slice PA G.rules.length pc, .slice RA G.rules.length rc, .slice CA G.rules.length cc, .slice VA vl va, .slice UA ul ua] 39))
  have HF4 := Aside0.mk ((Fr.refl (fun _ => False) W3).alloc (.cells #[.slice NA G.rules.length nc, .slice PA G.rules.length pc, .slice RA G.rules.length rc, .slice CA G.rules.length cc, .slice VA vl va, .slice UA ul ua] 39))
  generalize W3.alloc (.cells #[.slice NA G.rules.length nc, .slice PA G.rules.length pc, .slice RA G.rules.length rc, .slice CA G.rules.length cc, .slice VA vl va, .slice UA ul ua] 39) = W4 at HR HF4 ⊢
  generalize W3.heap.size = b2 at HR ⊢
  have HF34 := Aside0.mk (HF3.out.trans HF4.out (fun _ _ h => h))
  have HB4 := Aside0.mk (HF34.out.blk HBX.out id)
  have e0 := (blk_cell HB4.out 0).trans (show _ = some (Value.slice A0 G.kinds.length c0) from rfl)
  have e1 := (blk_cell HB4.out 1).trans (show _ = some (Value.slice A1 G.precs.length c1) from rfl)
  have e2 := (blk_cell HB4.out 2).trans (show _ = some (Value.slice A2 G.rules.length c2) from rfl)
  have e3 := (blk_cell HB4.out 3).trans (show _ = some (Value.slice A3 G.prods.length c3) from rfl)
  have e4 := (blk_cell HB4.out 4).trans (show _ = some (Value.int .i64 G.start) from rfl)
  go_wp2_with (fail)
  refine (least_calls W4 G A0 A1 A2 A3 c0 c1 c2 c3 (HG2.out.go HF34.out) 0).mono ?_
  rintro e W5 ⟨⟨n, sm, r, rfl, h1, _, h3⟩, hF5⟩
  obtain rfl : r = 0 := h1.2 ⟨HS.out.ok, Int.le_refl _, by have := HS.out.two; omega⟩
  obtain ⟨L, hL, hn, hs⟩ := h3 rfl
  rw [HS.out.least L hL] at hn hs
  obtain rfl : n = 1 := by rw [hn]; rfl
  obtain rfl : sm = true := by rw [hs]; rfl
  clear h1 h3 hL hn hs e0 e1 e2 e3 e4
  have HFE := Aside0.mk (HF2.out.trans (HF34.out.trans hF5 (fun _ _ h => h)) (fun _ _ h => h))
  have HN5 := Aside0.mk (Kd.R_below HN.out (HF4.out.trans hF5 (fun _ _ h => h)).to_below)
  have HS5 := Aside0.mk (Kd.S_below HFS.out (HF4.out.trans hF5 (fun _ _ h => h)).to_below)
  have HR5 := Aside0.mk (hF5.blk HR.out id)
  clear HN HFS HR HF4 HF34 HB4 HBX HF2 HF3 hF5 HG2
  have hr2 := HS.out.two
  have hfl := (firstL_sized G).fl
  obtain ⟨gn, kn, en⟩ := marks_form HN5.out (by rw [closedL_length]; omega)
  injection en with en1 en2 en3
  subst en1
  obtain ⟨m1, _⟩ := marks_at HN5.out (i := 1) (by decide) (by omega)
  obtain ⟨m0, _⟩ := marks_at HN5.out (i := 0) (by decide) (by omega)
  rw [HS.out.nul] at m1 m0
  have m1 : W5.cell? ⟨gn, 1, none⟩ = some (.bool true) := m1
  have m0 : W5.cell? ⟨gn, 0, none⟩ = some (.bool false) := m0
  have hvl := HVL.out
  rw [List.length_map, hfl, hr2] at hvl
  subst hvl
  have hX : (firstL G).map (listI 0) = [[2, 3], [2]] := by rw [HS.out.fst]; rfl
  have hS5 := HS5.out
  rw [hX] at hS5
  obtain ⟨adv, Av, cv, rfl, hcv, _, _⟩ := at_L3 (Kd.S_reads' hS5).2.2 0 (by decide) (by decide)
  have hcv : W5.cell? (adv.add 0) = some (.slice Av 2 cv) := hcv
  rw [show adv.add 0 = adv by unfold Addr.add; rfl] at hcv
  have hR5 := HR5.out
  rw [hr2] at hR5
  have q0 := (blk_cell hR5 0).trans (show _ = some (Value.slice (some ⟨gn, 0, none⟩) 2 nc) from rfl)
  have q4 := (blk_cell hR5 4).trans (show _ = some (Value.slice (some adv) 2 va) from rfl)
  clear hS5 hX HS5 hR5 HR5 HVL hfl en2 en3 HN5 HS hr2
  go_wp2_with (fail)
  go_ret
  exact ⟨rfl, HFE.out⟩
end Go.Proofs.Ytdngobjcdajogaa.Gram
