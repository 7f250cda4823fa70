/-
What a row begins with, by its first symbol and the rest: the plain law; and whether a number is among some: quoinlaw12.has.
-/
import Derived.Test.YtdngobjcdajogaaQG
import Derived.Test.YtdngobjcdajogaaPC
import Derived.Test.YtdngobjcdajogaaQM
namespace Go.Proofs.Ytdngobjcdajogaa.Gram
open Go.RowKit Go.Proofs.YtdngobjcdajogaaW.PrintWords Go.Proofs.YtdngobjcdajogaaW.PrintLast Go.Proofs.YtdngobjcdajogaaW.PrintMore Go.Proofs.Ytdngobjcdajogaa.Fr Go.Proofs.Ytdngobjcdajogaa.PGramFirsts Go.Proofs.Ytdngobjcdajogaa.TextSet

theorem has_l (l : List Int) (x : Int) (hl : l.length ≤ 4611686018427387904) : ∀ (n i : Nat), i + n = l.length → quoinlaw12_has.l0 (n + 1) l x (i : Int) = some (decide (x ∈ l.drop i))
  | 0, i, h => by
    obtain rfl : i = l.length := by omega
    simp [quoinlaw12_has.l0]
  | n + 1, i, h => by
    have hi : i < l.length := by omega
    have e : l.drop i = rd l (i : Int) :: l.drop (i + 1) := drop_rd hi
    have hw : wrap64 ((i : Int) + 1) = ((i + 1 : Nat) : Int) := by simp only [wrap64]; omega
    rw [quoinlaw12_has.l0, if_pos (by omega), if_pos (by omega), e, hw, has_l l x hl n (i + 1) (by omega)]
    by_cases hx : rd l (i : Int) = x
    · rw [if_pos hx]
      simp [hx]
    · rw [if_neg hx]
      have : ¬ x = rd l (i : Int) := fun h => hx h.symm
      simp [this]
theorem has_calls (w : World) (A : Option Addr) (c : Nat) (l : List Int) (x : Int) (h : kI.C w A l.length l) (hc : l.length ≤ c) (hl : l.length ≤ 4611686018427387904) :
    Calls Try.prog 11 #[.slice A l.length c, .int .i64 x] w fun e w' => e = .returned (.bool (decide (x ∈ l))) ∧ Fr (fun _ => False) w w' := by
  have hs : quoinlaw12_has.f (l.length + 1) l x = some (decide (x ∈ l)) := by
    have := has_l l x hl l.length 0 (by omega)
    simpa [quoinlaw12_has.f] using this
  refine (quoinlaw12_has.calls (l.length + 1) A c l x _ w h hc hs).mono ?_
  rintro e w' ⟨rfl, hB⟩
  exact ⟨rfl, Fr.drawn hB⟩
theorem fst_cons {G : Gr} {x : Int} {row : List Int} {t : Nat} : Fst G (x :: row) t ↔ Fst G [x] t ∨ (Emp G [x] ∧ Fst G row t) := by
  constructor
  · intro h
    cases h with
    | kind _ _ hk => exact .inl (.kind x [] hk)
    | rule _ _ i _ hk hi e hf => exact .inl (.rule x [] i t hk hi e hf)
    | skip _ _ _ hk hd hf => exact .inr ⟨fun y hy => by rw [List.mem_singleton] at hy; rw [hy]; exact ⟨hk, hd⟩, hf⟩
  · rintro (h | ⟨h, hf⟩)
    · cases h with
      | kind _ _ hk => exact .kind x row hk
      | rule _ _ i _ hk hi e hf => exact .rule x row i t hk hi e hf
      | skip _ _ _ _ _ hf => cases hf
    · have := h x (List.mem_singleton.2 rfl)
      exact .skip x row t this.1 this.2 hf
theorem emp_cons {G : Gr} {x : Int} {row : List Int} : Emp G (x :: row) ↔ Emp G [x] ∧ Emp G row :=
  ⟨fun h => ⟨fun y hy => h y (by rw [List.mem_singleton] at hy; rw [hy]; exact List.mem_cons_self), fun y hy => h y (List.mem_cons_of_mem _ hy)⟩, fun h y hy => by
    rcases List.mem_cons.1 hy with rfl | hy
    · exact h.1 y (List.mem_singleton.2 rfl)
    · exact h.2 y hy⟩
theorem mem_row {G : Gr} (hP : ProdsOk G) {l : List Int} (hs : SymsOk G l) (y : Int) : y ∈ listI 0 (rowOf G l).1 ↔ ∃ t : Nat, y = t ∧ Fst G l t := by
  have h := (row_first hP hs).2.2
  rw [mem_listI]
  constructor
  · rintro ⟨j, rfl, hj⟩
    refine ⟨j, by omega, (h j).1 ?_⟩
    simp only [rdOf, Int.toNat_natCast, List.getD_eq_getElem?_getD]
    rw [hj]
    rfl
  · rintro ⟨t, rfl, ht⟩
    have h2 := (h t).2 ht
    refine ⟨t, by omega, ?_⟩
    simp only [rdOf, Int.toNat_natCast, List.getD_eq_getElem?_getD] at h2
    cases hq : (rowOf G l).1[t]? with
    | none => rw [hq] at h2; cases h2
    | some b =>
      rw [hq] at h2
      simp only [Option.getD_some] at h2
      rw [h2]
theorem rowOk_cons {K R : Nat} {x : Int} {row : List Int} : RowOk K R (x :: row) ↔ RowOk K R [x] ∧ RowOk K R row := by
  constructor
  · intro h
    refine ⟨fun j hj => ?_, fun j hj => ?_⟩
    · obtain rfl : j = 0 := by simp at hj; exact hj
      exact h 0 (by simp)
    · have := h (j + 1) (by simp; omega)
      simpa [rd] using this
  · rintro ⟨h1, h2⟩ j hj
    cases j with
    | zero => exact h1 0 (by simp)
    | succ j =>
      have := h2 j (by simp at hj; omega)
      simpa [rd] using this
/-- The law: what a row begins with. -/
structure FirstLaw (la lb lc : List Int) (ea eb ec : Bool) : Prop where
  one : ∀ y, y ∈ la → y ∈ lb ∨ (eb = true ∧ y ∈ lc)
  two : ∀ y, y ∈ lb → y ∈ la
  tri : eb = true → ∀ y, y ∈ lc → y ∈ la
  emp : ea = (eb && ec)
theorem firstLaw {G : Gr} (hP : ProdsOk G) {x : Int} {row : List Int} (h : RowOk G.kinds.length G.rules.length (x :: row)) :
    FirstLaw (listI 0 (rowOf G (x :: row)).1) (listI 0 (rowOf G [x]).1) (listI 0 (rowOf G row).1) (rowOf G (x :: row)).2 (rowOf G [x]).2 (rowOf G row).2 := by
  obtain ⟨h1, h2⟩ := rowOk_cons.1 h
  have ea := (row_first hP h.syms).2.1
  have eb := (row_first hP h1.syms).2.1
  have ec := (row_first hP h2.syms).2.1
  refine ⟨fun y hy => ?_, fun y hy => ?_, fun hb y hy => ?_, ?_⟩
  · obtain ⟨t, rfl, ht⟩ := (mem_row hP h.syms y).1 hy
    rcases fst_cons.1 ht with h3 | ⟨h3, h4⟩
    · exact .inl ((mem_row hP h1.syms _).2 ⟨t, rfl, h3⟩)
    · exact .inr ⟨eb.2 h3, (mem_row hP h2.syms _).2 ⟨t, rfl, h4⟩⟩
  · obtain ⟨t, rfl, ht⟩ := (mem_row hP h1.syms y).1 hy
    exact (mem_row hP h.syms _).2 ⟨t, rfl, fst_cons.2 (.inl ht)⟩
  · obtain ⟨t, rfl, ht⟩ := (mem_row hP h2.syms y).1 hy
    exact (mem_row hP h.syms _).2 ⟨t, rfl, fst_cons.2 (.inr ⟨eb.1 hb, ht⟩)⟩
  · have e1 : (rowOf G (x :: row)).2 = true ↔ ((rowOf G [x]).2 && (rowOf G row).2) = true := by
      rw [Bool.and_eq_true, ea, eb, ec, emp_cons]
    exact Bool.eq_iff_iff.2 e1
end Go.Proofs.Ytdngobjcdajogaa.Gram
/-
The law of what rows begin with: quoinlaw12.GramFirsts, walked.
-/
namespace Go.Proofs.Ytdngobjcdajogaa.Gram
open Go.RowKit Go.Proofs.YtdngobjcdajogaaW.PrintWords Go.Proofs.YtdngobjcdajogaaW.PrintLast Go.Proofs.YtdngobjcdajogaaW.PrintMore Go.Proofs.Ytdngobjcdajogaa.Fr Go.Proofs.Ytdngobjcdajogaa.PGramFirsts Go.Proofs.Ytdngobjcdajogaa.TextSet

set_option maxHeartbeats 8000000 in
set_option maxRecDepth 100000 in
theorem law_calls (w : World) (G : Gr) (A0 A1 A2 A3 : Option Addr) (c0 c1 c2 c3 : Nat) (h : GAt w G A0 A1 A2 A3 c0 c1 c2 c3) (x : Int) (RA : Option Addr) (rc : Nat) (row : List Int) (hr : kI.C w RA row.length row) (hsz : row.length * 8 ≤ 140737488351232) :
    Calls Try.prog 3 #[.agg #[.slice A0 G.kinds.length c0, .slice A1 G.precs.length c1, .slice A2 G.rules.length c2, .slice A3 G.prods.length c3, .int .i64 G.start], .int .i64 x, .slice RA row.length rc] w fun e w' => e = .returned (.bool true) ∧ Fr (fun _ => False) w w' := by
  have hu := Try.underlying26
  have HG := Aside0.mk h
  have HR := Aside0.mk hr
  have HB0 := Aside0.mk (blk_new w (.cells #[.slice A0 G.kinds.length c0, .slice A1 G.precs.length c1, .slice A2 G.rules.length c2, .slice A3 G.prods.length c3, .int .i64 G.start] 26))
  have HF0 := Aside0.mk ((Fr.refl (fun _ => False) w).alloc (.cells #[.slice A0 G.kinds.length c0, .slice A1 G.precs.length c1, .slice A2 G.rules.length c2, .slice A3 G.prods.length c3, .int .i64 G.start] 26))
  clear h hr
  go_enter Try.func3, Try.ntmps3
  go_upto_region 1 with fail
  generalize w.alloc (.cells #[.slice A0 G.kinds.length c0, .slice A1 G.precs.length c1, .slice A2 G.rules.length c2, .slice A3 G.prods.length c3, .int .i64 G.start] 26) = W0 at HB0 HF0 ⊢
  generalize hb : w.heap.size = b at HB0 ⊢
  have HL1 := Aside0.mk (show kI.R 3 (W0.alloc (.cells #[.int .i64 x] 3)) W0.heap.size (fun _ => True) (.slice (some ⟨W0.heap.size, 0, none⟩) 1 1) [x] from Kd.R_of_own (own_lit_of W0 W0.heap.size 3 [x] (Nat.le_refl _) (by simp)) (fun _ _ => trivial))
  have HR1 := Aside0.mk (Kd.C_below HR.out (HF0.out.alloc (.cells #[.int .i64 x] 3)).to_below)
  have hs1 : W0.heap.size ≤ (W0.alloc (.cells #[.int .i64 x] 3)).heap.size := by simp only [World.size_alloc]; omega
  have HG1 := Aside0.mk ((Fr.refl (fun _ => False) W0).alloc (.cells #[.int .i64 x] 3))
  go_upto_region 2 with (first | ((with_reducible refine gate_builtin (b := .append) (xs := #[.tmp 21, .tmp 22]) rfl ?_); at_builtin; refine Kd.R_append_rows kI (w0 := W0.alloc (.cells #[.int .i64 x] 3)) W0.heap.size rfl (.tmp 21) (.tmp 22) 27 3 (.int .i64 0) 8 rfl Try.underlying27 info3 rfl (by decide) (by omega) _ [x] row _ _ _ (fun _ => True) (fun _ => False) rfl rfl HL1.out HR1.out (fun _ _ h => h) (fun _ h => h.elim) (fun _ _ => trivial) (Below.refl _ _) hs1 (by simp only [List.length_cons, List.length_nil]; omega) ?_; intro v7 W2 h7 hb7 hg7 hat7; have H7 := Aside0.mk (show kI.R 3 W2 W0.heap.size (fun _ => True) v7 (x :: row) from h7); have HF2 := Aside0.mk (HF0.out.trans (show Fr (fun _ => False) W0 W2 from HG1.out.trans (T := fun k => W0.heap.size ≤ k) ⟨hg7.os, hg7.tape, hg7.output, hg7.size, fun i hi hn => hg7.block i hi (fun e => hn (Kd.R_base HL1.out i e.symm))⟩ (fun k hk e => by omega)) (fun _ _ h => h)); have HB2 := Aside0.mk ((show Fr (fun _ => False) W0 W2 from HG1.out.trans (T := fun k => W0.heap.size ≤ k) ⟨hg7.os, hg7.tape, hg7.output, hg7.size, fun i hi hn => hg7.block i hi (fun e => hn (Kd.R_base HL1.out i e.symm))⟩ (fun k hk e => by omega)).blk HB0.out id); clear h7 hb7 hg7 hat7))
  obtain ⟨A7, c7, rfl⟩ := Kd.R_slice H7.out
  clear HL1 HR1 HG1 hs1 HB0 HF0
  have hcell : ∀ W, Fr (fun _ => False) W2 W → W.cell? ⟨b, 0, none⟩ = some (.slice A0 G.kinds.length c0) ∧ W.cell? ⟨b, 1, none⟩ = some (.slice A1 G.precs.length c1) ∧ W.cell? ⟨b, 2, none⟩ = some (.slice A2 G.rules.length c2) ∧ W.cell? ⟨b, 3, none⟩ = some (.slice A3 G.prods.length c3) ∧ W.cell? ⟨b, 4, none⟩ = some (.int .i64 G.start) := fun W hF => by
    have hB := hF.blk HB2.out id
    exact ⟨(blk_cell hB 0).trans rfl, (blk_cell hB 1).trans rfl, (blk_cell hB 2).trans rfl, (blk_cell hB 3).trans rfl, (blk_cell hB 4).trans rfl⟩
  have HCELL := Aside0.mk hcell
  clear hcell
  obtain ⟨e0, e1, e2, e3, e4⟩ := HCELL.out W2 (Fr.refl _ _)
  have hrl := Kd.C_max HR.out
  go_wp2_with (fail)
  refine (first_calls W2 G A0 A1 A2 A3 c0 c1 c2 c3 (HG.out.go HF2.out) A7 c7 (x :: row) (Kd.R_reads' H7.out).2.2).mono ?_
  rintro e W3 ⟨⟨va, ea, ra, la, rfl, hRa, hia, hva⟩, hF3⟩
  obtain ⟨Aa, ka, rfl⟩ := Kd.R_slice hRa
  have HRa := Aside0.mk hRa
  have HF3 := Aside0.mk hF3
  clear hRa hF3 e0 e1 e2 e3 e4 H7
  obtain ⟨e0, e1, e2, e3, e4⟩ := HCELL.out W3 HF3.out
  have HL3 := Aside0.mk (show kI.R 3 (W3.alloc (.cells #[.int .i64 x] 3)) W3.heap.size (fun _ => True) (.slice (some ⟨W3.heap.size, 0, none⟩) 1 1) [x] from Kd.R_of_own (own_lit_of W3 W3.heap.size 3 [x] (Nat.le_refl _) (by simp)) (fun _ _ => trivial))
  have HF4 := Aside0.mk ((Fr.refl (fun _ => False) W3).alloc (.cells #[.int .i64 x] 3))
  have f3 := HF4.out.cell e3 id
  go_wp2_with (fail)
  refine (first_calls (W3.alloc (.cells #[.int .i64 x] 3)) G A0 A1 A2 A3 c0 c1 c2 c3 (HG.out.go (HF2.out.trans (HF3.out.trans HF4.out (fun _ _ h => h)) (fun _ _ h => h))) (some ⟨W3.heap.size, 0, none⟩) 1 [x] (Kd.R_reads' HL3.out).2.2).mono ?_
  rintro e W5 ⟨⟨vb, eb, rb, lb, rfl, hRb, hib, hvb⟩, hF5⟩
  obtain ⟨Ab, kb, rfl⟩ := Kd.R_slice hRb
  have HRb := Aside0.mk hRb
  have HF35 := Aside0.mk (HF4.out.trans hF5 (fun _ _ h => h))
  have HF5 := Aside0.mk (HF3.out.trans HF35.out (fun _ _ h => h))
  clear hRb hF5 e0 e1 e2 e3 e4 f3 HL3 HF4
  obtain ⟨e0, e1, e2, e3, e4⟩ := HCELL.out W5 HF5.out
  go_wp2_with (fail)
  refine (first_calls W5 G A0 A1 A2 A3 c0 c1 c2 c3 (HG.out.go (HF2.out.trans HF5.out (fun _ _ h => h))) RA rc row (Kd.C_below HR.out (HF2.out.trans HF5.out (fun _ _ h => h)).to_below)).mono ?_
  rintro e W6 ⟨⟨vc, ec, rc2, lc, rfl, hRc, hic, hvc⟩, hF6⟩
  obtain ⟨Ac, kc, rfl⟩ := Kd.R_slice hRc
  have HF6 := Aside0.mk (HF2.out.trans (HF5.out.trans hF6 (fun _ _ h => h)) (fun _ _ h => h))
  have hCa := Aside0.mk (Kd.R_below HRa.out (HF35.out.trans hF6 (fun _ _ h => h)).to_below)
  have hCb := Aside0.mk (Kd.R_below HRb.out hF6.to_below)
  have hCc := Aside0.mk hRc
  have HIFF := Aside0.mk (show ra = 0 ↔ (rb = 0 ∧ rc2 = 0) by
    rw [hia, hib, hic, rowOk_cons]
    exact ⟨fun h => ⟨⟨h.1, h.2.1⟩, h.1, h.2.2⟩, fun h => ⟨h.1.1, h.1.2, h.2.2⟩⟩)
  have HLAW := Aside0.mk (show ra = 0 → rb = 0 → rc2 = 0 → FirstLaw la lb lc ea eb ec from fun h1 h2 h3 => by
    obtain ⟨q1, q2⟩ := hia.1 h1
    have := firstLaw q1.prodsOk q2
    rw [(hva h1).1, (hva h1).2, (hvb h2).1, (hvb h2).2, (hvc h3).1, (hvc h3).2]
    exact this)
  have HLEN := Aside0.mk (show ra = 0 → rb = 0 → rc2 = 0 → la.length ≤ 1024 ∧ lb.length ≤ 1024 ∧ lc.length ≤ 1024 from fun h1 h2 h3 => by
    obtain ⟨q1, q2⟩ := hia.1 h1
    obtain ⟨q3, q4⟩ := rowOk_cons.1 q2
    have k2 := q1.kinds.max
    have n1 := listI_len (rowOf G (x :: row)).1 0
    have n2 := listI_len (rowOf G [x]).1 0
    have n3 := listI_len (rowOf G row).1 0
    rw [(row_first q1.prodsOk q2.syms).1] at n1
    rw [(row_first q1.prodsOk q3.syms).1] at n2
    rw [(row_first q1.prodsOk q4.syms).1] at n3
    rw [(hva h1).1, (hvb h2).1, (hvc h3).1]
    omega)
  clear hia hib hic hva hvb hvc HRa HRb hRc HF3 HF5 HF35 hF6 HB2 HCELL e0 e1 e2 e3 e4 HG HR
  by_cases hall : ra = 0
  · obtain ⟨hb2, hc2⟩ := HIFF.out.1 hall
    have HL := Aside0.mk (HLAW.out hall hb2 hc2)
    obtain ⟨na, nb, nc⟩ := HLEN.out hall hb2 hc2
    have hna : la.length ≤ 4611686018427387904 := by omega
    have hnb : lb.length ≤ 4611686018427387904 := by omega
    have hnc : lc.length ≤ 4611686018427387904 := by omega
    clear HLEN
    subst hall hb2 hc2
    clear HLAW HIFF
    have hka := (Kd.R_reads' hCa.out).2.1
    have hkb := (Kd.R_reads' hCb.out).2.1
    have hkc := (Kd.R_reads' hCc.out).2.1
    have HKB := Aside0.mk hkb
    have HKC := Aside0.mk hkc
    have hma := Kd.C_max (Kd.R_reads' hCa.out).2.2
    have hmb := Kd.C_max (Kd.R_reads' hCb.out).2.2
    have hmc := Kd.C_max (Kd.R_reads' hCc.out).2.2
    have HAS := Aside0.mk (show ∀ (W : World) (y : Int), Fr (fun _ => False) W6 W → (Calls Try.prog 11 #[.slice Aa la.length ka, .int .i64 y] W fun e w' => e = .returned (.bool (decide (y ∈ la))) ∧ Fr (fun _ => False) W w') ∧ (Calls Try.prog 11 #[.slice Ab lb.length kb, .int .i64 y] W fun e w' => e = .returned (.bool (decide (y ∈ lb))) ∧ Fr (fun _ => False) W w') ∧ (Calls Try.prog 11 #[.slice Ac lc.length kc, .int .i64 y] W fun e w' => e = .returned (.bool (decide (y ∈ lc))) ∧ Fr (fun _ => False) W w') from fun W y hF =>
      ⟨has_calls W Aa ka la y (Kd.C_below (Kd.R_reads' hCa.out).2.2 hF.to_below) hka hna, has_calls W Ab kb lb y (Kd.C_below (Kd.R_reads' hCb.out).2.2 hF.to_below) hkb hnb, has_calls W Ac kc lc y (Kd.C_below (Kd.R_reads' hCc.out).2.2 hF.to_below) hkc hnc⟩)
    clear hka hkb hkc HKB HKC
    go_wp2_with (fail)
    go_loopw [17] (fun a W => ∃ i : Nat, a = .int .i64 i ∧ i ≤ la.length ∧ Aside0 (Fr (fun _ => False) W6 W)) (fun a _ => la.length - (intOf a).toNat)
    case atStart => exact ⟨0, rfl, Nat.zero_le _, ⟨Fr.refl _ _⟩⟩
    case round =>
      obtain ⟨i, rfl, hi, HW⟩ := hrel
      by_cases hlt : i < la.length
      · have HLT := Aside0.mk hlt
        obtain ⟨ad, rfl, hx⟩ := Kd.at_int (Kd.C_below (Kd.R_reads' hCa.out).2.2 HW.out.to_below) (i : Int) (by omega) (by omega)
        simp only [Int.toNat_natCast] at hx
        have hone := HL.out.one _ (rd_mem hlt)
        generalize rd la (i : Int) = y at hx hone
        go_wp2_with (fail)
        refine (HAS.out wr y HW.out).2.1.mono ?_
        rintro e W7 ⟨rfl, hF7⟩
        have HW7 := Aside0.mk (HW.out.trans hF7 (fun _ _ h => h))
        have hx7 := hF7.cell hx id
        clear hF7 hx HW
        by_cases hy : y ∈ lb
        · rw [decide_eq_true hy]
          clear hone
          go_wp2_with (fail)
          exact ⟨⟨i + 1, by go_num, HLT.out, HW7⟩, by have := HLT.out; simp [intOf]; omega⟩
        · rw [decide_eq_false hy]
          obtain ⟨rfl, hyc⟩ := hone.resolve_left hy
          go_wp2_with (fail)
          refine (HAS.out W7 y HW7.out).2.2.mono ?_
          rintro e W8 ⟨rfl, hF8⟩
          rw [decide_eq_true hyc]
          have HW8 := Aside0.mk (HW7.out.trans hF8 (fun _ _ h => h))
          clear hF8 hx7 HW7
          go_wp2_with (fail)
          exact ⟨⟨i + 1, by go_num, HLT.out, HW8⟩, by have := HLT.out; simp [intOf]; omega⟩
      · obtain rfl : i = la.length := by omega
        have HW1 := HW
        clear HW
        go_wp2_with (fail)
        go_loopw [18] (fun a W => ∃ i : Nat, a = .int .i64 i ∧ i ≤ lb.length ∧ Aside0 (Fr (fun _ => False) W6 W)) (fun a _ => lb.length - (intOf a).toNat)
        case atStart => exact ⟨0, rfl, Nat.zero_le _, HW1⟩
        case round =>
          clear HW1
          obtain ⟨i, rfl, hi, HW⟩ := hrel
          by_cases hlt : i < lb.length
          · have HLT := Aside0.mk hlt
            obtain ⟨ad, rfl, hx⟩ := Kd.at_int (Kd.C_below (Kd.R_reads' hCb.out).2.2 HW.out.to_below) (i : Int) (by omega) (by omega)
            simp only [Int.toNat_natCast] at hx
            have htwo := HL.out.two _ (rd_mem hlt)
            generalize rd lb (i : Int) = y at hx htwo
            go_wp2_with (fail)
            refine (HAS.out wr y HW.out).1.mono ?_
            rintro e W7 ⟨rfl, hF7⟩
            rw [decide_eq_true htwo]
            have HW7 := Aside0.mk (HW.out.trans hF7 (fun _ _ h => h))
            clear hF7 hx HW
            go_wp2_with (fail)
            exact ⟨⟨i + 1, by go_num, HLT.out, HW7⟩, by have := HLT.out; simp [intOf]; omega⟩
          · obtain rfl : i = lb.length := by omega
            have HW1 := HW
            clear HW
            go_wp2_with (fail)
            go_loopw [19] (fun a W => ∃ i : Nat, a = .int .i64 i ∧ i ≤ lc.length ∧ Aside0 (Fr (fun _ => False) W6 W)) (fun a _ => lc.length - (intOf a).toNat)
            case atStart => exact ⟨0, rfl, Nat.zero_le _, HW1⟩
            case round =>
              clear HW1
              obtain ⟨i, rfl, hi, HW⟩ := hrel
              by_cases hlt : i < lc.length
              · have HLT := Aside0.mk hlt
                obtain ⟨ad, rfl, hx⟩ := Kd.at_int (Kd.C_below (Kd.R_reads' hCc.out).2.2 HW.out.to_below) (i : Int) (by omega) (by omega)
                simp only [Int.toNat_natCast] at hx
                have htri := fun hb => HL.out.tri hb _ (rd_mem hlt)
                generalize rd lc (i : Int) = y at hx htri
                cases eb with
                | false =>
                  clear htri
                  go_wp2_with (fail)
                  exact ⟨⟨i + 1, by go_num, HLT.out, HW⟩, by have := HLT.out; simp [intOf]; omega⟩
                | true =>
                  have HTR := Aside0.mk (htri rfl)
                  clear htri
                  go_wp2_with (fail)
                  refine (HAS.out wr y HW.out).1.mono ?_
                  rintro e W7 ⟨rfl, hF7⟩
                  rw [decide_eq_true HTR.out]
                  have HW7 := Aside0.mk (HW.out.trans hF7 (fun _ _ h => h))
                  clear hF7 hx HW
                  go_wp2_with (fail)
                  exact ⟨⟨i + 1, by go_num, HLT.out, HW7⟩, by have := HLT.out; simp [intOf]; omega⟩
              · obtain rfl : i = lc.length := by omega
                have hem := HL.out.emp
                subst hem
                cases eb <;> cases ec <;>
                · go_wp2_with (fail)
                  refine (awake_calls wr).mono ?_
                  rintro e W7 ⟨rfl, hF7⟩
                  have HF7 := Aside0.mk (HF6.out.trans (HW.out.trans hF7 (fun _ _ h => h)) (fun _ _ h => h))
                  clear hF7 HW HF6
                  go_wp2_with (fail)
                  go_ret
                  exact ⟨rfl, HF7.out⟩
  · have hbc : ¬ (rb = 0 ∧ rc2 = 0) := fun h => hall (HIFF.out.2 h)
    clear HIFF HLAW
    have hra : (ra == 0) = false := by simp [hall]
    by_cases hb2 : rb = 0
    · have hc2 : ¬ rc2 = 0 := fun h => hbc ⟨hb2, h⟩
      have hrc : (rc2 == 0) = false := by simp [hc2]
      subst hb2
      go_wp2_with (fail)
      refine (awake_calls W6).mono ?_
      rintro e W7 ⟨rfl, hF7⟩
      have HF7 := Aside0.mk (HF6.out.trans hF7 (fun _ _ h => h))
      clear hF7
      go_wp2_with (fail)
      go_ret
      exact ⟨rfl, HF7.out⟩
    · clear hbc
      have hrb : (rb == 0) = false := by simp [hb2]
      go_wp2_with (fail)
      refine (awake_calls W6).mono ?_
      rintro e W7 ⟨rfl, hF7⟩
      have HF7 := Aside0.mk (HF6.out.trans hF7 (fun _ _ h => h))
      clear hF7
      go_wp2_with (fail)
      go_ret
      exact ⟨rfl, HF7.out⟩
end Go.Proofs.Ytdngobjcdajogaa.Gram
