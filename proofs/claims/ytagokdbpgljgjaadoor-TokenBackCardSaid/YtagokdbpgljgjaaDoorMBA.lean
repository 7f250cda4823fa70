/-
A text cut at one byte, of whatever length: strings.Cut and strings.SplitN into four, walked.
-/
import Derived.Deep.LoopGhost
import Derived.Test.YtagokdbpgljgjaaDoorMAZ
set_option linter.unusedSimpArgs false
set_option linter.unusedVariables false
namespace Go.Proofs.YtagokdbpgljgjaaDoor.Tok
open Go.RowKit Go.Proofs.YtagokdbpgljgjaaDoorW.PrintWords Go.Proofs.YtagokdbpgljgjaaDoorW.PrintLast Go.Proofs.YtagokdbpgljgjaaDoorW.PrintMore Go.Proofs.YtagokdbpgljgjaaDoor.Fr Go.Proofs.YtagokdbpgljgjaaDoor.PGramFirsts Go.Proofs.YtagokdbpgljgjaaDoor.TextSet Go.Proofs.YtagokdbpgljgjaaDoor.Bld Go.Proofs.YtagokdbpgljgjaaDoor.Utf
theorem sindex_calls (w : World) (s : ByteArray) (c : UInt8) : Calls Tryd.prog 58 #[.string s, .string ⟨#[c]⟩] w fun e w' => e = .returned (.int .i64 (Lib.indexB s ⟨#[c]⟩)) ∧ w' = w := by
  refine (Tryd.stringslite_Index_one_b s c w).mono ?_
  rintro e w' ⟨rfl, rfl⟩
  refine ⟨?_, rfl⟩
  rw [← Lib.index_one]
  try rfl
set_option maxRecDepth 100000 in
theorem scut_calls (w : World) (s : ByteArray) (c : UInt8) (hs : s.size ≤ 9223372036854775806) : Calls Tryd.prog 49 #[.string s, .string ⟨#[c]⟩] w fun e w' => e = .returned (.tuple #[.string ⟨(Lib.cut s.data.toList [c]).1.toArray⟩, .string ⟨(Lib.cut s.data.toList [c]).2.1.toArray⟩, .bool (Lib.cut s.data.toList [c]).2.2]) ∧ Fr (fun _ => False) w w' := by
  have HF := Aside0.mk (Fr.refl (fun _ => False) w)
  rcases Lib.indexB_cases s ⟨#[c]⟩ with hi | ⟨i, hi, hz⟩
  · obtain ⟨e1, e2, e3⟩ := Lib.cutB_miss s ⟨#[c]⟩ hi
    have e1 : (⟨(Lib.cut s.data.toList [c]).1.toArray⟩ : ByteArray) = s := e1
    have e2 : (⟨(Lib.cut s.data.toList [c]).2.1.toArray⟩ : ByteArray) = ByteArray.empty := e2
    have e3 : (Lib.cut s.data.toList [c]).2.2 = false := e3
    rw [e1, e2, e3]
    clear e1 e2 e3
    have HI := Aside0.mk hi
    clear hi
    go_enter Tryd.func49, Tryd.ntmps49
    go_wp2_with (fail)
    refine (sindex_calls w s c).mono ?_
    rintro e W1 ⟨rfl, rfl⟩
    rw [HI.out]
    go_wp2_with (fail)
    refine bodyPost_ret (results_tmp3 rfl _ _ _) rfl ?_
    exact ⟨rfl, HF.out⟩
  · have hz1 : (⟨#[c]⟩ : ByteArray).size = 1 := rfl
    rw [hz1] at hz
    obtain ⟨e1, e2, e3⟩ := Lib.cutB_hit s ⟨#[c]⟩ i hi
    have e1 : (⟨(Lib.cut s.data.toList [c]).1.toArray⟩ : ByteArray) = s.extract 0 i := e1
    have e2 : (⟨(Lib.cut s.data.toList [c]).2.1.toArray⟩ : ByteArray) = s.extract (i + 1) s.size := e2
    have e3 : (Lib.cut s.data.toList [c]).2.2 = true := e3
    rw [e1, e2, e3]
    clear e1 e2 e3
    have HI := Aside0.mk hi
    clear hi
    go_enter Tryd.func49, Tryd.ntmps49
    go_wp2_with (fail)
    refine (sindex_calls w s c).mono ?_
    rintro e W1 ⟨rfl, rfl⟩
    rw [HI.out]
    have d1 : (0 : Int) ≤ (i : Int) := by omega
    have d2 : (i : Int) ≤ (s.size : Int) := by omega
    have d3 : (i : Int) + 1 ≤ (s.size : Int) := by omega
    have d4 : (0 : Int) ≤ (i : Int) + 1 := by omega
    have d5 : ((i : Int) + 1).toNat = i + 1 := by omega
    go_wp2_with (fail)
    go_quiet (fail)
    go_wp2_with (fail)
    refine bodyPost_ret (results_tmp3 rfl _ _ _) rfl ?_
    exact ⟨rfl, (Fr.refl _ _).drewN _⟩
set_option maxRecDepth 100000 in
theorem cut_one (w : World) (N : Nat) (hN : N ≤ 9223372036854775806) : CutC w N := by
  intro W hF s hs
  have HF := Aside0.mk (Fr.refl (fun _ => False) W)
  have HC := Aside0.mk (scut_calls W s 10 (by omega))
  generalize Lib.cut s.data.toList [10] = r at HC ⊢
  obtain ⟨r1, r2, r3⟩ := r
  simp only at HC ⊢
  generalize (⟨r1.toArray⟩ : ByteArray) = x1 at HC ⊢
  generalize (⟨r2.toArray⟩ : ByteArray) = x2 at HC ⊢
  go_enter Tryd.func40, Tryd.ntmps40
  go_wp2_with (fail)
  refine HC.out.mono ?_
  rintro e W1 ⟨rfl, hF1⟩
  have HF1 := Aside0.mk hF1
  clear hF1
  go_wp2_with (fail)
  refine bodyPost_ret (results_tmp3 rfl _ _ _) rfl ?_
  exact ⟨rfl, HF1.out⟩
set_option maxRecDepth 100000 in
theorem index_calls (w : World) (s : ByteArray) (c : UInt8) : Calls Tryd.prog 61 #[.string s, .string ⟨#[c]⟩] w fun e w' => e = .returned (.int .i64 (Lib.indexB s ⟨#[c]⟩)) ∧ w' = w := by
  have HC := Aside0.mk (sindex_calls w s c)
  generalize Lib.indexB s ⟨#[c]⟩ = r at HC ⊢
  go_enter Tryd.func61, Tryd.ntmps61
  go_wp2_with (fail)
  refine HC.out.mono ?_
  rintro e W1 ⟨rfl, rfl⟩
  go_wp2_with (fail)
  go_ret
  exact ⟨rfl, rfl⟩
set_option maxHeartbeats 4000000 in
set_option maxRecDepth 1000000 in
theorem gen_calls (w : World) (s : ByteArray) (hs : s.size ≤ 281474976710656) :
    Calls Tryd.prog 50 #[.string s, .string ⟨#[32]⟩, .int .i64 0, .int .i64 4] w fun e w' =>
      e = .returned (.slice (some ⟨w.heap.size, 0, none⟩) (pcs s).length (min 4 (s.size + 1))) ∧ w' = w.alloc (.cells (Lib.cellsOf (pcs s) (min 4 (s.size + 1))) 9) := by
  obtain ⟨N, hN⟩ : ∃ N : Nat, min 4 (s.size + 1) = N := ⟨_, rfl⟩
  have HPC := Aside0.mk (show pcs s = Lib.splitB ⟨#[32]⟩ 0 (N - 1) s from by unfold pcs; rw [hN])
  rw [hN, HPC.out]
  have hNs : (N : Int) ≤ (s.size : Int) + 1 := by omega
  have hN1 : (1 : Int) ≤ (N : Int) := by omega
  have hN4 : (N : Int) ≤ 4 := by omega
  have eN' : min (4 : Int) ((s.size : Int) + 1) = (N : Int) := by omega
  have hmk := run_make_row' (P := Tryd.prog) 22 9 (.string ByteArray.empty) 16 Tryd.underlying22 (by kernel_rfl) rfl .i64 .i64 N (by omega) (by omega)
  have hse : (⟨#[32]⟩ : ByteArray).toList.isEmpty = false := by decide +kernel
  clear hN
  go_enter Tryd.func50, Tryd.ntmps50
  go_wp2_with (fail)
  clear hmk
  go_loopg [0, 10] (N - 1) (fun g s0 s10 wr => ∃ (done : List ByteArray) (rest : ByteArray), s0 = .string rest ∧ s10 = .int .i64 done.length ∧ done.length ≤ N - 1 ∧ g = N - 1 - done.length ∧ rest.size ≤ s.size ∧
    wr = w.alloc (.cells (Lib.cellsOf done N) 9) ∧ Aside0 (done ++ Lib.splitB ⟨#[32]⟩ 0 (N - 1 - done.length) rest = Lib.splitB ⟨#[32]⟩ 0 (N - 1) s))
  case atStart => exact ⟨[], s, rfl, rfl, Nat.zero_le _, rfl, Nat.le_refl _, by rw [Lib.cellsOf_nil], Aside0.mk rfl⟩
  case round =>
    obtain ⟨done, rest, rfl, rfl, hd, rfl, hrs, rfl, HS⟩ := hrel
    have hnext : (Lib.cellsOf done N)[done.length]? = some (.string ByteArray.empty) := Lib.cellsOf_next (by omega)
    have fin : Lib.splitB ⟨#[32]⟩ 0 (N - 1 - done.length) rest = [rest] → (Lib.splitB ⟨#[32]⟩ 0 (N - 1) s).length = done.length + 1 ∧ (Lib.cellsOf done N).setIfInBounds done.length (.string rest) = Lib.cellsOf (Lib.splitB ⟨#[32]⟩ 0 (N - 1) s) N := fun h => by
      have e := HS.out
      rw [h] at e
      rw [← e]
      exact ⟨by simp, Lib.cellsOf_set (by omega) rest⟩
    have FIN := Aside0.mk fin
    clear fin
    by_cases hlt : done.length < N - 1
    · have hltz : ((done.length : Nat) : Int) < (N : Int) - 1 := by omega
      rcases Lib.indexB_cases rest ⟨#[32]⟩ with hix | ⟨i, hix, hroom⟩
      · have HIX := Aside0.mk hix
        clear hix
        go_wp2_with (fail)
        refine (index_calls _ rest 32).mono ?_
        rintro e W1 ⟨rfl, rfl⟩
        rw [HIX.out]
        go_wp2_with (fail)
        go_ret
        obtain ⟨f1, f2⟩ := FIN.out (Lib.splitB_miss ⟨#[32]⟩ 0 _ rest HIX.out)
        rw [f1, ← f2]
        exact ⟨by first | rfl | (congr 2 <;> omega), rfl⟩
      · have hroom : i + 1 ≤ rest.size := hroom
        have HIX := Aside0.mk hix
        clear hix
        have c0 : ¬ ((i : Int) < 0) := by omega
        have c1 : (0 : Int) ≤ (i : Int) := by omega
        have c2 : (i : Int) ≤ (rest.size : Int) := by omega
        have c3 : (0 : Int) ≤ (i : Int) + 1 := by omega
        have c4 : (i : Int) + 1 ≤ (rest.size : Int) := by omega
        have c5 : ((i : Int) + 1).toNat = i + 1 := by omega
        go_wp2_with (fail)
        refine (index_calls _ rest 32).mono ?_
        rintro e W1 ⟨rfl, rfl⟩
        rw [HIX.out]
        go_wp2_with (fail)
        go_roundg (N - 1 - (done.length + 1))
        case measure => omega
        case rel =>
          refine ⟨done ++ [rest.extract 0 i], rest.extract (i + 1) rest.size, rfl, by simp, by simp; omega, by simp, by rw [ByteArray.size_extract]; omega, by rw [← Lib.cellsOf_set (by omega)], Aside0.mk ?_⟩
          rw [← HS.out, show N - 1 - done.length = (N - 1 - (done.length + 1)) + 1 by omega, Lib.splitB_hit ⟨#[32]⟩ 0 _ rest i HIX.out]
          simp
          rfl
    · have hltz : ¬ (((done.length : Nat) : Int) < (N : Int) - 1) := by omega
      go_wp2_with (fail)
      go_ret
      obtain ⟨f1, f2⟩ := FIN.out (by rw [show N - 1 - done.length = 0 by omega]; rfl)
      rw [f1, ← f2]
      exact ⟨by first | rfl | (congr 2 <;> omega), rfl⟩
set_option maxRecDepth 100000 in
theorem split_one4 (w : World) (N : Nat) (hN : N ≤ 281474976710656) : SplC w N := by
  intro W hF s hs
  have HG := Aside0.mk (gen_calls W s (by omega))
  have HL := Aside0.mk (fun j x (hj : (pcs s)[j]? = some x) => show (W.alloc (.cells (Lib.cellsOf (pcs s) (min 4 (s.size + 1))) 9)).cell? ⟨W.heap.size, j, none⟩ = some (.string x) from by
    refine (blk_cell (blk_new W _) j).trans ?_
    unfold Lib.cellsOf
    rw [List.getElem?_toArray, List.getElem?_append_left (by rw [List.length_map]; exact (List.getElem?_eq_some_iff.1 hj).1), List.getElem?_map, hj]
    rfl)
  have HFA := Aside0.mk ((Fr.refl (fun _ => False) W).alloc (.cells (Lib.cellsOf (pcs s) (min 4 (s.size + 1))) 9))
  generalize min 4 (s.size + 1) = m at HG HL HFA
  generalize (pcs s).length = L at HG ⊢
  go_enter Tryd.func41, Tryd.ntmps41
  go_wp2_with (fail)
  refine HG.out.mono ?_
  rintro e W1 ⟨rfl, rfl⟩
  go_wp2_with (fail)
  go_ret
  exact ⟨⟨W.heap.size, m, rfl, HL.out⟩, HFA.out⟩
end Go.Proofs.YtagokdbpgljgjaaDoor.Tok
/-
The law TokenBack, walked: a row is read back as it was written, and lines have no other form.
-/
set_option linter.unusedSimpArgs false
set_option linter.unusedVariables false
namespace Go.Proofs.YtagokdbpgljgjaaDoor.Tok
open Go.RowKit Go.Proofs.YtagokdbpgljgjaaDoorW.PrintWords Go.Proofs.YtagokdbpgljgjaaDoorW.PrintLast Go.Proofs.YtagokdbpgljgjaaDoorW.PrintMore Go.Proofs.YtagokdbpgljgjaaDoor.Fr Go.Proofs.YtagokdbpgljgjaaDoor.PGramFirsts Go.Proofs.YtagokdbpgljgjaaDoor.TextSet Go.Proofs.YtagokdbpgljgjaaDoor.Bld Go.Proofs.YtagokdbpgljgjaaDoor.Utf
/-- What token.Lines answers. -/
def LinesIs (ns : List ByteArray) (src : ByteArray) (l : List S55) (S : ByteArray) (b : Int) : Prop :=
  (b = 0 → KindsOk ns ∧ l.length ≤ 65536 ∧ checkF ns.length src.size 0 0 l = (0, 0) ∧ (∀ t, t ∈ l → fitT t = true) ∧ S.data.toList = linesB (lineS ns src) l ∧ S.size ≤ 6553600000) ∧
  (KindsOk ns → l.length ≤ 65536 → checkF ns.length src.size 0 0 l = (0, 0) → (∀ t, t ∈ l → fitT t = true) → b = 0)
theorem lines_is (w : World) (ns : List ByteArray) (A : Option Addr) (cp : Nat) (hA : Kd.string.C w A ns.length ns) (hs : ∀ s, s ∈ ns → s.size ≤ maxLen) (src : ByteArray) (l : List S55) (A2 : Option Addr) (c2 : Nat) (hC : Kd.C k55 w A2 l.length l) (hsr : src.size ≤ 9223372036854775807) (hP : Pow w) :
    ∃ (S : ByteArray) (b : Int), Calls Tryd.prog 18 #[.slice A ns.length cp, .string src, .slice A2 l.length c2] w (fun e w' => e = .returned (.tuple #[.string S, .int .i64 b]) ∧ Fr (fun _ => False) w w') ∧ LinesIs ns src l S b := by
  obtain ⟨⟨a, b⟩, hp⟩ := ckF_some ns src l
  by_cases hb : b = 0
  case neg =>
    refine ⟨_, b, lines_no w ns A cp hA hs src l A2 c2 hC a b hp hb, fun h => absurd h hb, fun hk hl hc hf => ?_⟩
    have := hp.1 hk hl
    rw [hc] at this
    injection this
  case pos =>
  subst hb
  obtain ⟨he, hk, hle, hch, hall⟩ := ck_ok hp rfl
  have hln : ∀ i : Nat, i < l.length → ∀ W, Fr (fun q => w.heap.size ≤ q) w W → Calls Tryd.prog 36 #[.slice A ns.length cp, .string src, .agg #[.int .i64 (rd_T55 l i).f0, .int .i64 (rd_T55 l i).f1, .int .i64 (rd_T55 l i).f2]] W fun e w' => e = .returned (.tuple #[.string (lineS ns src (rd_T55 l i)), .bool (fitT (rd_T55 l i))]) ∧ Fr (fun _ => False) W w' := by
    intro i hi W hF
    have hF0 := none_of hF
    obtain ⟨h0, h1, h2, h3, h4⟩ := hall _ (mem_T55 hi)
    generalize rd_T55 l i = t at h0 h1 h2 h3 h4 ⊢
    have h := line_any W ns A cp (Kd.C_below hA hF0.to_below) src t.f0.toNat t.f1.toNat t.f2.toNat (by omega) (name_size hk _) (by omega) (by omega) hsr (itc_of (hP.go hF0)) ⟨itB_size (by omega), itB_size (by omega)⟩
    rw [Int.toNat_of_nonneg (show 0 ≤ t.f0 by omega), Int.toNat_of_nonneg h2, Int.toNat_of_nonneg (show 0 ≤ t.f2 by omega)] at h
    rw [quote_fit src t h2 h3 h4] at h
    exact h
  have hsz : ∀ i : Nat, i < l.length → (lineS ns src (rd_T55 l i)).size ≤ 100000 := by
    intro i hi
    obtain ⟨h0, h1, h2, h3, h4⟩ := hall _ (mem_T55 hi)
    generalize rd_T55 l i = t at h0 h1 h2 h3 h4 ⊢
    have e1 := name_size hk t.f0
    have e2 := itB_size (n := t.f1.toNat) (by omega)
    have e3 := itB_size (n := t.f2.toNat) (by omega)
    have e4 := quoteF_size (src.extract t.f1.toNat t.f2.toNat)
    have e5 : (⟨#[32]⟩ : ByteArray).size = 1 := rfl
    have e6 : (⟨#[10]⟩ : ByteArray).size = 1 := rfl
    unfold lineS lineG
    simp only [ByteArray.size_append]
    omega
  have L1 := lines_any w ns A cp hA hs src l A2 c2 hC hk hle hch (lineS ns src) fitT hsz hln
  by_cases hf : ∀ j : Nat, j < l.length → fitT (rd_T55 l j) = true
  · have key : ∀ e, LinesAns (lineS ns src) fitT l e → e = .returned (.tuple #[.string ⟨(linesB (lineS ns src) l).toArray⟩, .int .i64 0]) := by
      rintro e (⟨_, h⟩ | ⟨⟨j, hj, h⟩, _⟩)
      · exact h
      · rw [hf j hj] at h
        cases h
    refine ⟨_, _, L1.mono fun e w' h => ⟨key e h.1, h.2⟩, fun _ => ⟨hk, hle, hch, ?_, rfl, ?_⟩, fun _ _ _ _ => rfl⟩
    · intro t ht
      obtain ⟨j, hj, rfl⟩ := List.getElem_of_mem ht
      have := hf j hj
      simpa [rd_T55, List.getD_eq_getElem?_getD, hj] using this
    · have h1 := linesB_size (lineS ns src) l hsz l.length (Nat.le_refl _)
      rw [List.take_length, bytesI_len] at h1
      show ((linesB (lineS ns src) l).toArray).size ≤ _
      rw [List.size_toArray]
      omega
  · have key : ∀ e, LinesAns (lineS ns src) fitT l e → e = .returned (.tuple #[.string ⟨#[]⟩, .int .i64 3]) := by
      rintro e (⟨h, _⟩ | ⟨_, h⟩)
      · exact absurd h hf
      · exact h
    refine ⟨_, _, L1.mono fun e w' h => ⟨key e h.1, h.2⟩, fun h => (by cases h), fun _ _ _ h => absurd (fun j hj => h _ (mem_T55 hj)) hf⟩
theorem back_is {ns : List ByteArray} (hs : ∀ s, s ∈ ns → s.size ≤ maxLen) {src : ByteArray} (hsr : src.size ≤ 9223372036854775807) {l L : List S55} {S : ByteArray} {why at_ : Int} (h : LinesIs ns src l S 0) (hR : ReadIs ns src S.data.toList L why at_) : L = l ∧ why = 0 ∧ at_ = 0 := by
  obtain ⟨hk, hl, hc, hf, e, _⟩ := h.1 rfl
  have hb := Rd.back (src := src) hk hs l 0 0 0 (by omega) hc hf
  rw [← e] at hb
  exact read_one hs hsr (L := l) (a := 0) (b := 0) (.inr ⟨hk, l, none, hb, .inl ⟨rfl, rfl, rfl, rfl⟩⟩) hR
/-- What is read: nothing, or a row whose lines these are. -/
theorem read_is {ns : List ByteArray} {src : ByteArray} {l : List UInt8} {L : List S55} {why at_ : Int} (h : ReadIs ns src l L why at_) : (¬ why = 0 ∧ L = []) ∨ (why = 0 ∧ at_ = 0 ∧ KindsOk ns ∧ L.length ≤ 65536 ∧ checkF ns.length src.size 0 0 L = (0, 0) ∧ (∀ t, t ∈ L → fitT t = true) ∧ l = linesB (lineS ns src) L) := by
  rcases h with ⟨_, rfl, rfl, _⟩ | ⟨hk, l0, r, hR, ⟨rfl, rfl, rfl, rfl⟩ | ⟨k, rfl, rfl, rfl, rfl⟩⟩
  · exact .inl ⟨by decide, rfl⟩
  · obtain ⟨h1, h2, h3, h4⟩ := hR.lines rfl
    exact .inr ⟨rfl, rfl, hk, by have := h2 (by omega); omega, h3 0, h4, h1⟩
  · exact .inl ⟨by decide, rfl⟩
set_option maxHeartbeats 8000000 in
set_option maxRecDepth 100000 in
theorem back_calls (w : World) (ns : List ByteArray) (A : Option Addr) (cn : Nat) (hA : Kd.string.C w A ns.length ns) (hcn : ns.length ≤ cn) (hs : ∀ s, s ∈ ns → s.size ≤ maxLen) (src : ByteArray) (hsr : src.size ≤ 9223372036854775807) (l : List S55) (A2 : Option Addr) (c2 : Nat) (hC : Kd.C k55 w A2 l.length l) (hc2 : l.length ≤ c2) (X : ByteArray) (hX : X.size ≤ 281474976710656) (hE : Errs w) (hP : Pow w) (hM : Mx w) :
    Calls Tryd.prog 6 #[.agg #[.slice A ns.length cn, .string src, .slice A2 l.length c2], .string X] w fun e w' => e = .returned (.bool true) ∧ Fr (fun _ => False) w w' := by
  have hu := Tryd.underlying25
  have hF0 := (Fr.refl (fun _ => False) w).alloc (.cells #[.slice A ns.length cn, .string src, .slice A2 l.length c2] 25)
  have hB0 := blk_new w (.cells #[.slice A ns.length cn, .string src, .slice A2 l.length c2] 25)
  obtain ⟨W0, hW0⟩ : ∃ W, w.alloc (.cells #[.slice A ns.length cn, .string src, .slice A2 l.length c2] 25) = W := ⟨_, rfl⟩
  rw [hW0] at hF0 hB0
  have HF0 := Aside0.mk hF0
  have HB0 := Aside0.mk hB0
  have HM := Aside0.mk hM
  have HE := Aside0.mk hE
  have HP := Aside0.mk hP
  have HA := Aside0.mk hA
  have HC := Aside0.mk hC
  have HSS := Aside0.mk hs
  have HW0 := Aside0.mk hW0
  clear hF0 hB0 hM hW0 hA hC hs hP hE
  go_enter Tryd.func6, Tryd.ntmps6
  go_upto_region 1 with (fail)
  rw [HW0.out]
  obtain ⟨q, hq⟩ : ∃ q, w.heap.size = q := ⟨_, rfl⟩
  rw [hq] at HB0
  simp only [hq]
  clear hq
  go_wp2_with (fail)
  refine (alive_calls W0 (HM.out.fr HF0.out (fun _ _ => id))).mono ?_
  rintro e W1 ⟨rfl, hF⟩
  have HF1 := Aside0.mk (HF0.out.trans hF (fun _ _ h => h))
  have HB1 := Aside0.mk (hF.blk HB0.out id)
  clear hF HF0 HB0
  have k0 := (blk_cell HB1.out 0).trans (show _ = some (Value.slice A ns.length cn) from rfl)
  have k1 := (blk_cell HB1.out 1).trans (show _ = some (Value.string src) from rfl)
  have k2 := (blk_cell HB1.out 2).trans (show _ = some (Value.slice A2 l.length c2) from rfl)
  obtain ⟨S, b, hln, hli⟩ := lines_is W1 ns A cn (Kd.C_below HA.out HF1.out.to_below) HSS.out src l A2 c2 (Kd.C_below HC.out HF1.out.to_below) hsr (HP.out.go HF1.out)
  have HLN := Aside0.mk hln
  have HLI := Aside0.mk hli
  clear hln hli
  go_wp2_with (fail)
  refine HLN.out.mono ?_
  rintro e W2 ⟨rfl, hF⟩
  have HF2 := Aside0.mk (HF1.out.trans hF (fun _ _ h => h))
  have HB2 := Aside0.mk (hF.blk HB1.out id)
  clear hF HF1 HB1 k0 k1 k2 HLN
  have k0 := (blk_cell HB2.out 0).trans (show _ = some (Value.slice A ns.length cn) from rfl)
  have k1 := (blk_cell HB2.out 1).trans (show _ = some (Value.string src) from rfl)
  have k2 := (blk_cell HB2.out 2).trans (show _ = some (Value.slice A2 l.length c2) from rfl)
  by_cases hb : b = 0
  · subst hb
    have hSz := ((HLI.out.1 rfl).2.2.2.2.2)
    go_wp2_with (fail)
    refine (read_any W2 ns A cn (Kd.C_below HA.out HF2.out.to_below) hcn HSS.out src hsr S (by omega) (cut_one W2 S.size (by omega)) (split_one4 W2 S.size (by omega)) (HE.out.go HF2.out) (HP.out.go HF2.out)).mono ?_
    rintro e W3 ⟨⟨v, L, why, at_, rfl, hv, hI⟩, hF⟩
    obtain ⟨rfl, rfl, rfl⟩ := back_is HSS.out hsr HLI.out hI
    obtain ⟨A3, c3, rfl⟩ := Kd.R_slice hv
    have HF3 := Aside0.mk (HF2.out.trans hF (fun _ _ h => h))
    have HB3 := Aside0.mk (hF.blk HB2.out id)
    have HV3 := Aside0.mk hv
    clear hF hI hv
    have HF4 := Aside0.mk (HF3.out.alloc (.cells #[.int .i64 0, .int .i64 0] 43))
    have HB4 := Aside0.mk (blk_alloc HB3.out (.cells #[.int .i64 0, .int .i64 0] 43))
    have HG4 := Aside0.mk (blk_new W3 (.cells #[.int .i64 0, .int .i64 0] 43))
    have HV4 := Aside0.mk (Kd.R_below HV3.out ((Fr.refl (fun _ => False) W3).alloc (.cells #[.int .i64 0, .int .i64 0] 43)).to_below)
    clear HF3 HB3 HV3
    go_upto_region 6 with (fail)
    obtain ⟨W4, hW4⟩ : ∃ W, W3.alloc (.cells #[.int .i64 0, .int .i64 0] 43) = W := ⟨_, rfl⟩
    obtain ⟨b4, hb4⟩ : ∃ b, W3.heap.size = b := ⟨_, rfl⟩
    rw [hW4] at HF4 HB4 HG4 HV4
    rw [hb4] at HG4
    simp only [hW4, hb4]
    clear hW4 hb4 k0 k1 k2
    have z0 := (blk_cell HG4.out 0).trans (show _ = some (Value.int .i64 0) from rfl)
    have z1 := (blk_cell HG4.out 1).trans (show _ = some (Value.int .i64 0) from rfl)
    have k2 := (blk_cell HB4.out 2).trans (show _ = some (Value.slice A2 L.length c2) from rfl)
    have HSM := Aside0.mk (same_calls W4 L (by have := (HLI.out.1 rfl).2.1; omega) A3 c3 (Kd.R_reads' HV4.out).2.1 (Kd.R_reads' HV4.out).2.2 A2 c2 hc2 (Kd.C_below HC.out HF4.out.to_below))
    go_wp2_with (fail)
    refine HSM.out.mono ?_
    rintro e W5 ⟨rfl, hF⟩
    have HF5 := Aside0.mk (HF4.out.trans hF (fun _ _ h => h))
    have HB5 := Aside0.mk (hF.blk HB4.out id)
    clear hF HF4 HB4 HG4 HV4 HSM z0 z1 k2
    have k0 := (blk_cell HB5.out 0).trans (show _ = some (Value.slice A ns.length cn) from rfl)
    have k1 := (blk_cell HB5.out 1).trans (show _ = some (Value.string src) from rfl)
    go_wp2_with (fail)
    refine (read_any W5 ns A cn (Kd.C_below HA.out HF5.out.to_below) hcn HSS.out src hsr X hX (cut_one W5 X.size (by omega)) (split_one4 W5 X.size hX) (HE.out.go HF5.out) (HP.out.go HF5.out)).mono ?_
    rintro e W6 ⟨⟨v, M, why, at_, rfl, hv, hI⟩, hF⟩
    obtain ⟨A6, c6, rfl⟩ := Kd.R_slice hv
    have HF6 := Aside0.mk ((HF5.out.trans hF (fun _ _ h => h)).alloc (.cells #[.int .i64 why, .int .i64 at_] 43))
    have HB6 := Aside0.mk (blk_alloc (hF.blk HB5.out id) (.cells #[.int .i64 why, .int .i64 at_] 43))
    have HG6 := Aside0.mk (blk_new W6 (.cells #[.int .i64 why, .int .i64 at_] 43))
    have HV6 := Aside0.mk (Kd.R_below hv ((Fr.refl (fun _ => False) W6).alloc (.cells #[.int .i64 why, .int .i64 at_] 43)).to_below)
    have HI6 := Aside0.mk (read_is hI)
    clear hF hI hv k0 k1 HF5 HB5
    go_upto_region 9 with (fail)
    obtain ⟨W7, hW7⟩ : ∃ W, W6.alloc (.cells #[.int .i64 why, .int .i64 at_] 43) = W := ⟨_, rfl⟩
    obtain ⟨b7, hb7⟩ : ∃ b, W6.heap.size = b := ⟨_, rfl⟩
    rw [hW7] at HF6 HB6 HG6 HV6
    rw [hb7] at HG6
    simp only [hW7, hb7]
    clear hW7 hb7
    have z0 := (blk_cell HG6.out 0).trans (show _ = some (Value.int .i64 why) from rfl)
    have z1 := (blk_cell HG6.out 1).trans (show _ = some (Value.int .i64 at_) from rfl)
    rcases HI6.out with ⟨hw, hM⟩ | ⟨hw, hat, hk, hMl, hMc, hMf, hMe⟩
    · subst hM
      simp only [List.length_nil]
      go_wp2_with (fail)
      go_ret
      exact ⟨rfl, HF6.out⟩
    · subst hw
      subst hat
      have k0 := (blk_cell HB6.out 0).trans (show _ = some (Value.slice A ns.length cn) from rfl)
      have k1 := (blk_cell HB6.out 1).trans (show _ = some (Value.string src) from rfl)
      obtain ⟨S2, b2, hln, hli⟩ := lines_is W7 ns A cn (Kd.C_below HA.out HF6.out.to_below) HSS.out src M A6 c6 (Kd.R_reads' HV6.out).2.2 hsr (HP.out.go HF6.out)
      obtain rfl : b2 = 0 := hli.2 hk hMl hMc hMf
      obtain rfl : S2 = X := data_inj ((hli.1 rfl).2.2.2.2.1.trans hMe.symm)
      have HLN2 := Aside0.mk hln
      clear hln hli hMe HI6 hMf hMc
      generalize M.length = ml at HLN2 HV6
      go_wp2_with (fail)
      refine HLN2.out.mono ?_
      rintro e W8 ⟨rfl, hF⟩
      have HF8 := Aside0.mk (HF6.out.trans hF (fun _ _ h => h))
      clear hF HLN2
      go_wp2_with (fail)
      go_ret
      exact ⟨rfl, HF8.out⟩
  · clear k0 k1 k2
    have k0 := (blk_cell HB2.out 0).trans (show _ = some (Value.slice A ns.length cn) from rfl)
    have k1 := (blk_cell HB2.out 1).trans (show _ = some (Value.string src) from rfl)
    go_wp2_with (fail)
    refine (read_any W2 ns A cn (Kd.C_below HA.out HF2.out.to_below) hcn HSS.out src hsr X hX (cut_one W2 X.size (by omega)) (split_one4 W2 X.size hX) (HE.out.go HF2.out) (HP.out.go HF2.out)).mono ?_
    rintro e W6 ⟨⟨v, M, why, at_, rfl, hv, hI⟩, hF⟩
    obtain ⟨A6, c6, rfl⟩ := Kd.R_slice hv
    have HF6 := Aside0.mk ((HF2.out.trans hF (fun _ _ h => h)).alloc (.cells #[.int .i64 why, .int .i64 at_] 43))
    have HB6 := Aside0.mk (blk_alloc (hF.blk HB2.out id) (.cells #[.int .i64 why, .int .i64 at_] 43))
    have HG6 := Aside0.mk (blk_new W6 (.cells #[.int .i64 why, .int .i64 at_] 43))
    have HV6 := Aside0.mk (Kd.R_below hv ((Fr.refl (fun _ => False) W6).alloc (.cells #[.int .i64 why, .int .i64 at_] 43)).to_below)
    have HI6 := Aside0.mk (read_is hI)
    clear hF hI hv k0 k1 HF2 HB2
    go_upto_region 9 with (fail)
    obtain ⟨W7, hW7⟩ : ∃ W, W6.alloc (.cells #[.int .i64 why, .int .i64 at_] 43) = W := ⟨_, rfl⟩
    obtain ⟨b7, hb7⟩ : ∃ b, W6.heap.size = b := ⟨_, rfl⟩
    rw [hW7] at HF6 HB6 HG6 HV6
    rw [hb7] at HG6
    simp only [hW7, hb7]
    clear hW7 hb7
    have z0 := (blk_cell HG6.out 0).trans (show _ = some (Value.int .i64 why) from rfl)
    have z1 := (blk_cell HG6.out 1).trans (show _ = some (Value.int .i64 at_) from rfl)
    rcases HI6.out with ⟨hw, hM⟩ | ⟨hw, hat, hk, hMl, hMc, hMf, hMe⟩
    · subst hM
      simp only [List.length_nil]
      go_wp2_with (fail)
      go_ret
      exact ⟨rfl, HF6.out⟩
    · subst hw
      subst hat
      have k0 := (blk_cell HB6.out 0).trans (show _ = some (Value.slice A ns.length cn) from rfl)
      have k1 := (blk_cell HB6.out 1).trans (show _ = some (Value.string src) from rfl)
      obtain ⟨S2, b2, hln, hli⟩ := lines_is W7 ns A cn (Kd.C_below HA.out HF6.out.to_below) HSS.out src M A6 c6 (Kd.R_reads' HV6.out).2.2 hsr (HP.out.go HF6.out)
      obtain rfl : b2 = 0 := hli.2 hk hMl hMc hMf
      obtain rfl : S2 = X := data_inj ((hli.1 rfl).2.2.2.2.1.trans hMe.symm)
      have HLN2 := Aside0.mk hln
      clear hln hli hMe HI6 hMf hMc
      generalize M.length = ml at HLN2 HV6
      go_wp2_with (fail)
      refine HLN2.out.mono ?_
      rintro e W8 ⟨rfl, hF⟩
      have HF8 := Aside0.mk (HF6.out.trans hF (fun _ _ h => h))
      clear hF HLN2
      go_wp2_with (fail)
      go_ret
      exact ⟨rfl, HF8.out⟩
end Go.Proofs.YtagokdbpgljgjaaDoor.Tok
