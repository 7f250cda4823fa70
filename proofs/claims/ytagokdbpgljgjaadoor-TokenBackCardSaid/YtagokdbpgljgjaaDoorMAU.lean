/-
A text's quoted form, by the document: quoinref01.Quote, walked.
-/
import Derived.Test.YtagokdbpgljgjaaDoorMAT
set_option linter.unusedSimpArgs false
set_option linter.unusedVariables false
namespace Go.Proofs.YtagokdbpgljgjaaDoor.Tok
open Go.RowKit Go.Proofs.YtagokdbpgljgjaaDoorW.PrintWords Go.Proofs.YtagokdbpgljgjaaDoorW.PrintLast Go.Proofs.YtagokdbpgljgjaaDoorW.PrintMore Go.Proofs.YtagokdbpgljgjaaDoor.Fr Go.Proofs.YtagokdbpgljgjaaDoor.PGramFirsts Go.Proofs.YtagokdbpgljgjaaDoor.TextSet Go.Proofs.YtagokdbpgljgjaaDoor.Bld Go.Proofs.YtagokdbpgljgjaaDoor.Utf
theorem byte3 : (Tryd.prog.info? 5).map (fun i => (i.zero, i.size, i.bytes)) = some (some (.int .u8 0), 1, 1) := by kernel_rfl
theorem lit_R (W : World) (B : Nat) (hB : B ≤ W.heap.size) (l : List Int) (hl : l.length ≤ 1000) : kB.R 5 (W.alloc (.cells (l.map (fun n => Value.int .u8 n)).toArray 5)) B (fun _ => True) (.slice (some ⟨W.heap.size, 0, none⟩) l.length l.length) l :=
  Kd.R_of_own (by
    have h := World.ownsRow_lit (base := B) (e := 5) (size := 1) W (l.map (fun n => Value.int .u8 n)).toArray l.length hB (by have h9 : maxLen = 9223372036854775807 := (by decide); omega) (by simp)
    simpa [encs] using h) (fun _ _ => trivial)
section
variable {ops : Array Oper} {rest : List Oper} {o : Oper} {a : Act} {Q : Exit → Act → World → Prop} {W : World} {Kc : Act → World → Prop}
/-- append(b, l...), l written out. -/
theorem ap_lit (B : Nat) (l : List Int) (hgd : o.guard = none) (s x : Operand) (ho : o.op = .call { callee := .builtin .append, args := #[s, x], argTypes := #[77, 77] }) (v : Value) (xs : List Int) (hs : a.eval s = v) (hx : a.eval x = .slice (some ⟨W.heap.size, 0, none⟩) l.length l.length)
    (HO : kB.R 5 W B (fun _ => True) v xs) (hB : B ≤ W.heap.size) (hl : xs.length ≤ 1000000) (hl2 : l.length ≤ 1000)
    (h : ∀ v1 w1, kB.R 5 w1 B (fun _ => True) v1 (xs ++ l) → Fr (fun k => B ≤ k) W w1 → wpList Tryd.prog ops Q rest (a.put o.dst v1) w1) : wpList Tryd.prog ops Q (o :: rest) a (W.alloc (.cells (l.map (fun n => Value.int .u8 n)).toArray 5)) := by
  refine Kd.R_append_rows kB (w0 := W.alloc (.cells (l.map (fun n => Value.int .u8 n)).toArray 5)) B hgd s x 77 5 (.int .u8 0) 1 ho Tryd.underlying77 byte3 rfl (by decide) (by decide) v xs l (some ⟨W.heap.size, 0, none⟩) l.length l.length (fun _ => True) (fun _ => False) hs hx (Kd.R_alloc HO _) (Kd.R_reads' (lit_R W B hB l hl2)).2.2 (fun _ _ h => h) (fun _ h => h.elim) (fun _ _ => trivial) (Below.refl _ _) (by rw [World.size_alloc]; omega) (by omega) ?_
  intro v1 w1 h1 _ hg _
  exact h v1 w1 h1 (((Fr.refl _ W).alloc _).grown hg (fun k hk _ => Kd.R_base HO k hk))
theorem ap_lit_step (B : Nat) (l : List Int) (hw : Region.wanted o (yielded ops a.tmps) = true) (s x : Operand) (ho : o.op = .call { callee := .builtin .append, args := #[s, x], argTypes := #[77, 77] }) (v : Value) (xs : List Int) (hs : a.eval s = v) (hx : a.eval x = .slice (some ⟨W.heap.size, 0, none⟩) l.length l.length)
    (HO : kB.R 5 W B (fun _ => True) v xs) (hB : B ≤ W.heap.size) (hl : xs.length ≤ 1000000) (hl2 : l.length ≤ 1000)
    (h : ∀ v1 w1, kB.R 5 w1 B (fun _ => True) v1 (xs ++ l) → Fr (fun k => B ≤ k) W w1 → Kc (a.put o.dst v1) w1) : if Region.wanted o (yielded ops a.tmps) = true then Oper.wp Tryd.prog o a (W.alloc (.cells (l.map (fun n => Value.int .u8 n)).toArray 5)) Kc Q else Kc (a.put o.dst undef) (W.alloc (.cells (l.map (fun n => Value.int .u8 n)).toArray 5)) := by
  refine Kd.R_append_rows_step kB (w0 := W.alloc (.cells (l.map (fun n => Value.int .u8 n)).toArray 5)) B hw s x 77 5 (.int .u8 0) 1 ho Tryd.underlying77 byte3 rfl (by decide) (by decide) v xs l (some ⟨W.heap.size, 0, none⟩) l.length l.length (fun _ => True) (fun _ => False) hs hx (Kd.R_alloc HO _) (Kd.R_reads' (lit_R W B hB l hl2)).2.2 (fun _ _ h => h) (fun _ h => h.elim) (fun _ _ => trivial) (Below.refl _ _) (by rw [World.size_alloc]; omega) (by omega) ?_
  intro v1 w1 h1 _ hg _
  exact h v1 w1 h1 (((Fr.refl _ W).alloc _).grown hg (fun k hk _ => Kd.R_base HO k hk))
end
theorem next_no (s : ByteArray) (i : Nat) : (nextF s i).2.2 = false → (nextF s i).1 = 0 := by
  unfold nextF
  split <;> simp
theorem quote_text (s : ByteArray) : strOfNums (34 :: bytesI (qL (rawL s) s 0) ++ [34]) = ⟨(quoteL s).toArray⟩ := by
  have e : (34 :: bytesI (qL (rawL s) s 0) ++ [34] : List Int) = bytesI (quoteL s) := by
    unfold quoteL
    rw [bytesI_cons, bytesI_append]
    rfl
  rw [e]
  have h := nums_text (quoteL s)
  rw [dl] at h
  exact ByteArray.ext (Array.ext' h)
theorem none_of {w W : World} (h : Fr (fun k => w.heap.size ≤ k) w W) : Fr (fun _ => False) w W := ⟨h.os, h.tape, h.output, h.size, fun i hi _ => h.block i hi (by omega)⟩
/-- How far the quoting came, by the document. -/
structure QrR (w W : World) (s : ByteArray) (i : Nat) (v : Value) (out : List UInt8) : Prop where
  row : kB.R 5 W w.heap.size (fun _ => True) v (34 :: bytesI out)
  fr : Fr (fun k => w.heap.size ≤ k) w W
  eq : out ++ qL (rawL s) s i = qL (rawL s) s 0
  len : out.length ≤ 4 * i
set_option maxHeartbeats 8000000 in
set_option maxRecDepth 100000 in
theorem rquote_calls (w : World) (s : ByteArray) (hs : s.size ≤ 4096) :
    Calls Tryd.prog 48 #[.string s] w fun e w' => e = .returned (.tuple #[.string ⟨(quoteL s).toArray⟩, .int .i64 0]) ∧ Fr (fun _ => False) w w' := by
  have HL0 := Aside0.mk (lit_R w w.heap.size (Nat.le_refl _) [34] (by decide))
  have HF0 := Aside0.mk ((Fr.refl (fun k => w.heap.size ≤ k) w).alloc (.cells #[.int .u8 34] 5))
  go_enter Tryd.func48, Tryd.ntmps48
  go_upto_region 5 with (fail)
  have HQ0 := Aside0.mk (show QrR w (w.alloc (.cells #[.int .u8 34] 5)) s 0 (.slice (some ⟨w.heap.size, 0, none⟩) 1 1) [] from ⟨HL0.out, HF0.out, rfl, Nat.le_refl _⟩)
  clear HL0 HF0
  generalize w.alloc (.cells #[.int .u8 34] 5) = W0 at HQ0 ⊢
  go_wp2_with (fail)
  go_loopw [5, 6] (fun v a W => ∃ (i : Nat) (out : List UInt8), a = .int .i64 i ∧ i ≤ s.size ∧ Aside0 (QrR w W s i v out)) (fun _ a _ => s.size - (intOf a).toNat)
  case atStart => exact ⟨0, [], rfl, Nat.zero_le _, HQ0⟩
  case round =>
    clear HQ0
    obtain ⟨i, out, rfl, hi, HQ⟩ := hrel
    have hln := HQ.out.len
    have hsz0 := HQ.out.fr.size
    by_cases hlt : i < s.size
    case neg =>
      obtain rfl : i = s.size := by omega
      have hout : out = qL (rawL s) s 0 := by have := HQ.out.eq; rwa [qL_out (by omega), List.append_nil] at this
      have HOUT := Aside0.mk hout
      clear hout
      go_wp2_with (first | ((with_reducible refine gate_builtin (b := .append) (xs := #[.tmp 104, .tmp 105]) rfl ?_); at_builtin; refine ap_lit w.heap.size [34] rfl (.tmp 104) (.tmp 105) rfl _ _ rfl rfl HQ.out.row hsz0 (by simp only [List.length_cons, bytesI_len]; omega) (by decide) ?_; intro v3 W3 h3 hF3; obtain ⟨CA, cc, rfl⟩ := Kd.R_slice h3; have HF3 := Aside0.mk (HQ.out.fr.trans hF3 (fun _ _ h => h)); have hcv := Kd.C_string (P := Tryd.prog) (A := CA) (c := cc) Tryd.underlying77 Tryd.underlying5 Tryd.underlying9 (Kd.R_reads' h3).2.2; rw [HOUT.out] at hcv ⊢; have HST := Aside0.mk (show strOfNums (34 :: bytesI (qL (rawL s) s 0) ++ [34]) = ⟨(quoteL s).toArray⟩ from quote_text s); rw [HST.out] at hcv; clear h3 hF3; generalize (34 :: bytesI (qL (rawL s) s 0) ++ [34]).length = bl at hcv ⊢))
      go_ret2
      exact ⟨rfl, none_of HF3.out⟩
    case pos =>
    have HNX := Aside0.mk (rnext_calls wr s i hlt (by omega))
    have HEQ := Aside0.mk (HQ.out.eq.symm.trans (by rw [qL_in hlt, ← List.append_assoc]))
    obtain ⟨hn1, hn4, hns⟩ := next_size s i hlt
    have HGB := Aside0.mk (Utf.get_at hlt)
    have hok := next_no s i
    generalize nextF s i = nf at HNX HEQ hn1 hn4 hns hok
    obtain ⟨r, n, ok⟩ := nf
    simp only at hn1 hn4 hns hok
    go_wp2_with (fail)
    refine HNX.out.mono ?_
    rintro e W2 ⟨rfl, hF2⟩
    have HR2 := Aside0.mk (Kd.R_below HQ.out.row hF2.to_below)
    have HF2 := Aside0.mk (HQ.out.fr.trans hF2 (fun _ _ h => h.elim))
    have hsz := HF2.out.size
    clear hF2 HNX HQ
    cases ok with
    | false =>
      obtain rfl : r = 0 := hok rfl
      clear hok
      have HP := Aside0.mk (show qL (rawL s) s 0 = (out ++ [92, 120, hexD ((s.get! i).toNat / 16), hexD ((s.get! i).toNat % 16)]) ++ qL (rawL s) s (i + n) from by have := HEQ.out; simpa [pieceI] using this)
      rw [HGB.out] at HP
      obtain ⟨bb, hbb⟩ : ∃ b, s[i]'hlt = b := ⟨_, rfl⟩
      rw [hbb] at HP
      have HLB := Aside0.mk (show ([92, 120, hexD (bb.toNat / 16), hexD (bb.toNat % 16)] : List UInt8).length ≤ 4 * n from by simp only [List.length_cons, List.length_nil]; omega)
      clear HEQ
      have hbl := bb.toNat_lt
      have hb16 : bb.toNat / 16 < 16 := by omega
      have hb15 : bb.toNat % 16 < 16 := by omega
      have hw1 : IntKind.u8.wrap ((bb.toNat : Int) / 16) = (bb.toNat : Int) / 16 := by rw [IntKind.wrap_u8]; omega
      have hw2 : (bb.toNat : Int).tmod 16 = (bb.toNat : Int) % 16 := Int.tmod_eq_emod_of_nonneg (by omega)
      have hw3 : (bb.toNat : Int) / 16 < 16 := by omega
      have hw6 : (0 : Int) ≤ (bb.toNat : Int) / 16 := by omega
      have hw7 : (0 : Int) ≤ (bb.toNat : Int) % 16 := by omega
      have hw8 : (bb.toNat : Int) % 16 < 16 := by omega
      have hw4 : ((bb.toNat : Int) / 16).toNat = bb.toNat / 16 := by omega
      have hw5 : ((bb.toNat : Int) % 16).toNat = bb.toNat % 16 := by omega
      have hx1 := hex_at (bb.toNat / 16) hb16
      have hx2 := hex_at (bb.toNat % 16) hb15
      go_wp2_with (fail)
      refine wp_region_last_drew (S := fun _ => True) (ds := []) (by kernel_rfl) trivial (fun _ => ?_)
      refine tk 0 ?_
      refine tk 1 ?_
      refine tk 2 ?_
      refine tk 3 ?_
      refine tk 4 ?_
      refine tk 5 ?_
      refine tk 6 ?_
      refine tk 7 ?_
      refine tk 8 ?_
      refine tk 9 ?_
      refine tk 10 ?_
      refine tk 11 ?_
      refine tk 12 ?_
      refine on 13 (fun K hK => ?_)
      go_simp
      refine hK.out _ _ trivial (fun _ => ?_)
      clear hK K
      try simp only [Act.put, List.setIfInBounds_toArray, List.set_cons_zero, List.set_cons_succ]
      refine on 14 (fun K hK => ?_)
      refine ap_lit_step w.heap.size [92, 120, ((hexD (bb.toNat / 16)).toNat : Int), ((hexD (bb.toNat % 16)).toNat : Int)] (by rfl) (.tmp 86) (.tmp 99) rfl _ _ rfl rfl (Kd.R_drew HR2.out) hsz (by simp only [List.length_cons, bytesI_len]; omega) (by simp only [List.length_cons, List.length_nil]; omega) ?_
      intro v3 W3 h3 hF3'
      have hF3 := (((Fr.refl (fun k => w.heap.size ≤ k) W2).drew).trans hF3' (fun _ _ h => h))
      have HQ3 := Aside0.mk (show QrR w W3 s (i + n) v3 (out ++ [92, 120, hexD (bb.toNat / 16), hexD (bb.toNat % 16)]) from ⟨by rw [bytesI_append]; exact h3, HF2.out.trans hF3 (fun _ _ h => h), HP.out.symm, by rw [List.length_append]; have h9 : ([92, 120, hexD (bb.toNat / 16), hexD (bb.toNat % 16)]).length ≤ 4 * n := HLB.out; omega⟩)
      refine hK.out _ _ trivial (fun _ => ?_)
      clear hK K h3 hF3 hF3'
      try simp only [Act.put, List.setIfInBounds_toArray, List.set_cons_zero, List.set_cons_succ]
      refine tk 15 ?_
      refine dn ?_
      go_wp2_with (fail)
      exact ⟨⟨i + n, _, by go_num, by omega, HQ3⟩, by simp [intOf]; omega⟩
    | true =>
      clear hok
      by_cases c1 : r = 10
      case pos =>
        subst c1
        have HP := Aside0.mk (show qL (rawL s) s 0 = (out ++ [92, 110]) ++ qL (rawL s) s (i + n) from by have := HEQ.out; simpa [pieceI] using this)
        have HLB := Aside0.mk (show ([92, 110] : List UInt8).length ≤ 4 * n from by simp only [List.length_cons, List.length_nil]; omega)
        clear HEQ
        go_wp2_with (first | ((with_reducible refine gate_builtin (b := .append) (xs := #[.tmp 39, .tmp 40]) rfl ?_); at_builtin; refine ap_lit w.heap.size [92, 110] rfl (.tmp 39) (.tmp 40) rfl _ _ rfl rfl HR2.out hsz (by simp only [List.length_cons, bytesI_len]; omega) (by decide) ?_; intro v3 W3 h3 hF3; have HQ3 := Aside0.mk (show QrR w W3 s (i + n) v3 (out ++ [92, 110]) from ⟨by rw [bytesI_append]; exact h3, HF2.out.trans hF3 (fun _ _ h => h), HP.out.symm, by rw [List.length_append]; have h9 : ([92, 110]).length ≤ 4 * n := HLB.out; omega⟩); clear h3 hF3))
        exact ⟨⟨i + n, _, by go_num, by omega, HQ3⟩, by simp [intOf]; omega⟩
      have q1 : (((r : Nat) : Int) == 10) = false := beq_eq_false_iff_ne.2 (by omega)
      by_cases c2 : r = 9
      case pos =>
        subst c2
        have HP := Aside0.mk (show qL (rawL s) s 0 = (out ++ [92, 116]) ++ qL (rawL s) s (i + n) from by have := HEQ.out; simpa [pieceI] using this)
        have HLB := Aside0.mk (show ([92, 116] : List UInt8).length ≤ 4 * n from by simp only [List.length_cons, List.length_nil]; omega)
        clear HEQ
        go_wp2_with (first | ((with_reducible refine gate_builtin (b := .append) (xs := #[.tmp 48, .tmp 49]) rfl ?_); at_builtin; refine ap_lit w.heap.size [92, 116] rfl (.tmp 48) (.tmp 49) rfl _ _ rfl rfl HR2.out hsz (by simp only [List.length_cons, bytesI_len]; omega) (by decide) ?_; intro v3 W3 h3 hF3; have HQ3 := Aside0.mk (show QrR w W3 s (i + n) v3 (out ++ [92, 116]) from ⟨by rw [bytesI_append]; exact h3, HF2.out.trans hF3 (fun _ _ h => h), HP.out.symm, by rw [List.length_append]; have h9 : ([92, 116]).length ≤ 4 * n := HLB.out; omega⟩); clear h3 hF3))
        exact ⟨⟨i + n, _, by go_num, by omega, HQ3⟩, by simp [intOf]; omega⟩
      have q2 : (((r : Nat) : Int) == 9) = false := beq_eq_false_iff_ne.2 (by omega)
      by_cases c3 : r = 13
      case pos =>
        subst c3
        have HP := Aside0.mk (show qL (rawL s) s 0 = (out ++ [92, 114]) ++ qL (rawL s) s (i + n) from by have := HEQ.out; simpa [pieceI] using this)
        have HLB := Aside0.mk (show ([92, 114] : List UInt8).length ≤ 4 * n from by simp only [List.length_cons, List.length_nil]; omega)
        clear HEQ
        go_wp2_with (first | ((with_reducible refine gate_builtin (b := .append) (xs := #[.tmp 57, .tmp 58]) rfl ?_); at_builtin; refine ap_lit w.heap.size [92, 114] rfl (.tmp 57) (.tmp 58) rfl _ _ rfl rfl HR2.out hsz (by simp only [List.length_cons, bytesI_len]; omega) (by decide) ?_; intro v3 W3 h3 hF3; have HQ3 := Aside0.mk (show QrR w W3 s (i + n) v3 (out ++ [92, 114]) from ⟨by rw [bytesI_append]; exact h3, HF2.out.trans hF3 (fun _ _ h => h), HP.out.symm, by rw [List.length_append]; have h9 : ([92, 114]).length ≤ 4 * n := HLB.out; omega⟩); clear h3 hF3))
        exact ⟨⟨i + n, _, by go_num, by omega, HQ3⟩, by simp [intOf]; omega⟩
      have q3 : (((r : Nat) : Int) == 13) = false := beq_eq_false_iff_ne.2 (by omega)
      by_cases c4 : r = 34
      case pos =>
        subst c4
        have HP := Aside0.mk (show qL (rawL s) s 0 = (out ++ [92, 34]) ++ qL (rawL s) s (i + n) from by have := HEQ.out; simpa [pieceI] using this)
        have HLB := Aside0.mk (show ([92, 34] : List UInt8).length ≤ 4 * n from by simp only [List.length_cons, List.length_nil]; omega)
        clear HEQ
        go_wp2_with (first | ((with_reducible refine gate_builtin (b := .append) (xs := #[.tmp 70, .tmp 73]) rfl ?_); at_builtin; refine ap_lit w.heap.size [92, 34] rfl (.tmp 70) (.tmp 73) rfl _ _ rfl rfl HR2.out hsz (by simp only [List.length_cons, bytesI_len]; omega) (by decide) ?_; intro v3 W3 h3 hF3; have HQ3 := Aside0.mk (show QrR w W3 s (i + n) v3 (out ++ [92, 34]) from ⟨by rw [bytesI_append]; exact h3, HF2.out.trans hF3 (fun _ _ h => h), HP.out.symm, by rw [List.length_append]; have h9 : ([92, 34]).length ≤ 4 * n := HLB.out; omega⟩); clear h3 hF3))
        exact ⟨⟨i + n, _, by go_num, by omega, HQ3⟩, by simp [intOf]; omega⟩
      have q4 : (((r : Nat) : Int) == 34) = false := beq_eq_false_iff_ne.2 (by omega)
      by_cases c5 : r = 92
      case pos =>
        subst c5
        have HP := Aside0.mk (show qL (rawL s) s 0 = (out ++ [92, 92]) ++ qL (rawL s) s (i + n) from by have := HEQ.out; simpa [pieceI] using this)
        have HLB := Aside0.mk (show ([92, 92] : List UInt8).length ≤ 4 * n from by simp only [List.length_cons, List.length_nil]; omega)
        clear HEQ
        go_wp2_with (first | ((with_reducible refine gate_builtin (b := .append) (xs := #[.tmp 70, .tmp 73]) rfl ?_); at_builtin; refine ap_lit w.heap.size [92, 92] rfl (.tmp 70) (.tmp 73) rfl _ _ rfl rfl HR2.out hsz (by simp only [List.length_cons, bytesI_len]; omega) (by decide) ?_; intro v3 W3 h3 hF3; have HQ3 := Aside0.mk (show QrR w W3 s (i + n) v3 (out ++ [92, 92]) from ⟨by rw [bytesI_append]; exact h3, HF2.out.trans hF3 (fun _ _ h => h), HP.out.symm, by rw [List.length_append]; have h9 : ([92, 92]).length ≤ 4 * n := HLB.out; omega⟩); clear h3 hF3))
        exact ⟨⟨i + n, _, by go_num, by omega, HQ3⟩, by simp [intOf]; omega⟩
      have q5 : (((r : Nat) : Int) == 92) = false := beq_eq_false_iff_ne.2 (by omega)
      by_cases c6 : r < 32
      case pos =>
        have q6 : decide (((r : Nat) : Int) < 32) = true := decide_eq_true (by omega)
        have HP := Aside0.mk (show qL (rawL s) s 0 = (out ++ [92, 120, hexD ((s.get! i).toNat / 16), hexD ((s.get! i).toNat % 16)]) ++ qL (rawL s) s (i + n) from by have := HEQ.out; simpa [pieceI, c1, c2, c3, c4, c5, c6] using this)
        rw [HGB.out] at HP
        obtain ⟨bb, hbb⟩ : ∃ b, s[i]'hlt = b := ⟨_, rfl⟩
        rw [hbb] at HP
        have HLB := Aside0.mk (show ([92, 120, hexD (bb.toNat / 16), hexD (bb.toNat % 16)] : List UInt8).length ≤ 4 * n from by simp only [List.length_cons, List.length_nil]; omega)
        clear HEQ
        have hbl := bb.toNat_lt
        have hb16 : bb.toNat / 16 < 16 := by omega
        have hb15 : bb.toNat % 16 < 16 := by omega
        have hw1 : IntKind.u8.wrap ((bb.toNat : Int) / 16) = (bb.toNat : Int) / 16 := by rw [IntKind.wrap_u8]; omega
        have hw2 : (bb.toNat : Int).tmod 16 = (bb.toNat : Int) % 16 := Int.tmod_eq_emod_of_nonneg (by omega)
        have hw3 : (bb.toNat : Int) / 16 < 16 := by omega
        have hw6 : (0 : Int) ≤ (bb.toNat : Int) / 16 := by omega
        have hw7 : (0 : Int) ≤ (bb.toNat : Int) % 16 := by omega
        have hw8 : (bb.toNat : Int) % 16 < 16 := by omega
        have hw4 : ((bb.toNat : Int) / 16).toNat = bb.toNat / 16 := by omega
        have hw5 : ((bb.toNat : Int) % 16).toNat = bb.toNat % 16 := by omega
        have hx1 := hex_at (bb.toNat / 16) hb16
        have hx2 := hex_at (bb.toNat % 16) hb15
        go_wp2_with (fail)
        refine wp_region_last_drew (S := fun _ => True) (ds := []) (by kernel_rfl) trivial (fun _ => ?_)
        refine tk 0 ?_
        refine tk 1 ?_
        refine tk 2 ?_
        refine tk 3 ?_
        refine tk 4 ?_
        refine tk 5 ?_
        refine tk 6 ?_
        refine tk 7 ?_
        refine tk 8 ?_
        refine tk 9 ?_
        refine tk 10 ?_
        refine tk 11 ?_
        refine tk 12 ?_
        refine on 13 (fun K hK => ?_)
        go_simp
        refine hK.out _ _ trivial (fun _ => ?_)
        clear hK K
        try simp only [Act.put, List.setIfInBounds_toArray, List.set_cons_zero, List.set_cons_succ]
        refine on 14 (fun K hK => ?_)
        refine ap_lit_step w.heap.size [92, 120, ((hexD (bb.toNat / 16)).toNat : Int), ((hexD (bb.toNat % 16)).toNat : Int)] (by rfl) (.tmp 86) (.tmp 99) rfl _ _ rfl rfl (Kd.R_drew HR2.out) hsz (by simp only [List.length_cons, bytesI_len]; omega) (by simp only [List.length_cons, List.length_nil]; omega) ?_
        intro v3 W3 h3 hF3'
        have hF3 := (((Fr.refl (fun k => w.heap.size ≤ k) W2).drew).trans hF3' (fun _ _ h => h))
        have HQ3 := Aside0.mk (show QrR w W3 s (i + n) v3 (out ++ [92, 120, hexD (bb.toNat / 16), hexD (bb.toNat % 16)]) from ⟨by rw [bytesI_append]; exact h3, HF2.out.trans hF3 (fun _ _ h => h), HP.out.symm, by rw [List.length_append]; have h9 : ([92, 120, hexD (bb.toNat / 16), hexD (bb.toNat % 16)]).length ≤ 4 * n := HLB.out; omega⟩)
        refine hK.out _ _ trivial (fun _ => ?_)
        clear hK K h3 hF3 hF3'
        try simp only [Act.put, List.setIfInBounds_toArray, List.set_cons_zero, List.set_cons_succ]
        refine tk 15 ?_
        refine dn ?_
        go_wp2_with (fail)
        exact ⟨⟨i + n, _, by go_num, by omega, HQ3⟩, by simp [intOf]; omega⟩
      have q6 : decide (((r : Nat) : Int) < 32) = false := decide_eq_false (by omega)
      by_cases c7 : r = 127
      case pos =>
        subst c7
        have HP := Aside0.mk (show qL (rawL s) s 0 = (out ++ [92, 120, hexD ((s.get! i).toNat / 16), hexD ((s.get! i).toNat % 16)]) ++ qL (rawL s) s (i + n) from by have := HEQ.out; simpa [pieceI] using this)
        rw [HGB.out] at HP
        obtain ⟨bb, hbb⟩ : ∃ b, s[i]'hlt = b := ⟨_, rfl⟩
        rw [hbb] at HP
        have HLB := Aside0.mk (show ([92, 120, hexD (bb.toNat / 16), hexD (bb.toNat % 16)] : List UInt8).length ≤ 4 * n from by simp only [List.length_cons, List.length_nil]; omega)
        clear HEQ
        have hbl := bb.toNat_lt
        have hb16 : bb.toNat / 16 < 16 := by omega
        have hb15 : bb.toNat % 16 < 16 := by omega
        have hw1 : IntKind.u8.wrap ((bb.toNat : Int) / 16) = (bb.toNat : Int) / 16 := by rw [IntKind.wrap_u8]; omega
        have hw2 : (bb.toNat : Int).tmod 16 = (bb.toNat : Int) % 16 := Int.tmod_eq_emod_of_nonneg (by omega)
        have hw3 : (bb.toNat : Int) / 16 < 16 := by omega
        have hw6 : (0 : Int) ≤ (bb.toNat : Int) / 16 := by omega
        have hw7 : (0 : Int) ≤ (bb.toNat : Int) % 16 := by omega
        have hw8 : (bb.toNat : Int) % 16 < 16 := by omega
        have hw4 : ((bb.toNat : Int) / 16).toNat = bb.toNat / 16 := by omega
        have hw5 : ((bb.toNat : Int) % 16).toNat = bb.toNat % 16 := by omega
        have hx1 := hex_at (bb.toNat / 16) hb16
        have hx2 := hex_at (bb.toNat % 16) hb15
        go_wp2_with (fail)
        refine wp_region_last_drew (S := fun _ => True) (ds := []) (by kernel_rfl) trivial (fun _ => ?_)
        refine tk 0 ?_
        refine tk 1 ?_
        refine tk 2 ?_
        refine tk 3 ?_
        refine tk 4 ?_
        refine tk 5 ?_
        refine tk 6 ?_
        refine tk 7 ?_
        refine tk 8 ?_
        refine tk 9 ?_
        refine tk 10 ?_
        refine tk 11 ?_
        refine tk 12 ?_
        refine on 13 (fun K hK => ?_)
        go_simp
        refine hK.out _ _ trivial (fun _ => ?_)
        clear hK K
        try simp only [Act.put, List.setIfInBounds_toArray, List.set_cons_zero, List.set_cons_succ]
        refine on 14 (fun K hK => ?_)
        refine ap_lit_step w.heap.size [92, 120, ((hexD (bb.toNat / 16)).toNat : Int), ((hexD (bb.toNat % 16)).toNat : Int)] (by rfl) (.tmp 86) (.tmp 99) rfl _ _ rfl rfl (Kd.R_drew HR2.out) hsz (by simp only [List.length_cons, bytesI_len]; omega) (by simp only [List.length_cons, List.length_nil]; omega) ?_
        intro v3 W3 h3 hF3'
        have hF3 := (((Fr.refl (fun k => w.heap.size ≤ k) W2).drew).trans hF3' (fun _ _ h => h))
        have HQ3 := Aside0.mk (show QrR w W3 s (i + n) v3 (out ++ [92, 120, hexD (bb.toNat / 16), hexD (bb.toNat % 16)]) from ⟨by rw [bytesI_append]; exact h3, HF2.out.trans hF3 (fun _ _ h => h), HP.out.symm, by rw [List.length_append]; have h9 : ([92, 120, hexD (bb.toNat / 16), hexD (bb.toNat % 16)]).length ≤ 4 * n := HLB.out; omega⟩)
        refine hK.out _ _ trivial (fun _ => ?_)
        clear hK K h3 hF3 hF3'
        try simp only [Act.put, List.setIfInBounds_toArray, List.set_cons_zero, List.set_cons_succ]
        refine tk 15 ?_
        refine dn ?_
        go_wp2_with (fail)
        exact ⟨⟨i + n, _, by go_num, by omega, HQ3⟩, by simp [intOf]; omega⟩
      have q7 : (((r : Nat) : Int) == 127) = false := beq_eq_false_iff_ne.2 (by omega)
      have HP := Aside0.mk (show qL (rawL s) s 0 = (out ++ rawL s i (i + n)) ++ qL (rawL s) s (i + n) from by have := HEQ.out; simpa [pieceI, c1, c2, c3, c4, c5, c6, c7] using this)
      have HLB := Aside0.mk (show (rawL s i (i + n)).length ≤ 4 * n from by have := rawL_len s i (i + n); omega)
      clear HEQ
      go_wp2_with (first | ((with_reducible refine gate_builtin (b := .append) (xs := #[.tmp 25, .tmp 31]) rfl ?_); at_builtin; refine app_text w.heap.size rfl (.tmp 25) (.tmp 31) 9 rfl Tryd.underlying9 _ _ (s.extract i (i + n)) rfl rfl HR2.out hsz (by simp only [List.length_cons, bytesI_len]; have h9 : (s.extract i (i + n)).size ≤ 4 := (by simp; omega); omega) ?_; intro v3 W3 h3 hg3; have HQ3 := Aside0.mk (show QrR w W3 s (i + n) v3 (out ++ rawL s i (i + n)) from ⟨by rw [bytesI_append, ← bytesI_raw]; exact h3, HF2.out.grown hg3 (fun k hk _ => Kd.R_base HR2.out k hk), HP.out.symm, by rw [List.length_append]; have h9 : (rawL s i (i + n)).length ≤ 4 * n := HLB.out; omega⟩); clear h3 hg3))
      exact ⟨⟨i + n, _, by go_num, by omega, HQ3⟩, by simp [intOf]; omega⟩
end Go.Proofs.YtagokdbpgljgjaaDoor.Tok
/-
A text that is too long has no quoted form: text.Quote and the document's.
-/
set_option linter.unusedSimpArgs false
set_option linter.unusedVariables false
namespace Go.Proofs.YtagokdbpgljgjaaDoor.Tok
open Go.RowKit Go.Proofs.YtagokdbpgljgjaaDoorW.PrintWords Go.Proofs.YtagokdbpgljgjaaDoorW.PrintLast Go.Proofs.YtagokdbpgljgjaaDoorW.PrintMore Go.Proofs.YtagokdbpgljgjaaDoor.Fr Go.Proofs.YtagokdbpgljgjaaDoor.PGramFirsts Go.Proofs.YtagokdbpgljgjaaDoor.TextSet Go.Proofs.YtagokdbpgljgjaaDoor.Bld Go.Proofs.YtagokdbpgljgjaaDoor.Utf
set_option maxRecDepth 100000 in
theorem quote_long (w : World) (s : ByteArray) (hs : 4096 < s.size) :
    Calls Tryd.prog 45 #[.string s] w fun e w' => e = .returned (.tuple #[.string ⟨#[]⟩, .int .i64 3]) ∧ Fr (fun _ => False) w w' := by
  have HF := Aside0.mk ((Fr.refl (fun _ => False) w))
  go_enter Tryd.func45, Tryd.ntmps45
  go_wp2_with (fail)
  go_ret2
  exact ⟨rfl, HF.out⟩
set_option maxRecDepth 100000 in
theorem rquote_long (w : World) (s : ByteArray) (hs : 4096 < s.size) :
    Calls Tryd.prog 48 #[.string s] w fun e w' => e = .returned (.tuple #[.string ⟨#[]⟩, .int .i64 3]) ∧ Fr (fun _ => False) w w' := by
  have HF := Aside0.mk ((Fr.refl (fun _ => False) w))
  go_enter Tryd.func48, Tryd.ntmps48
  go_wp2_with (fail)
  go_ret2
  exact ⟨rfl, HF.out⟩
/-- What Quote answers of any text. -/
def quoteF (s : ByteArray) : ByteArray × Int := if s.size ≤ 4096 then (⟨(quoteL s).toArray⟩, 0) else (⟨#[]⟩, 3)
theorem quote_any (w : World) (s : ByteArray) :
    Calls Tryd.prog 45 #[.string s] w fun e w' => e = .returned (.tuple #[.string (quoteF s).1, .int .i64 (quoteF s).2]) ∧ Fr (fun _ => False) w w' := by
  unfold quoteF
  split
  · rename_i h
    exact quote_calls w s h
  · rename_i h
    exact quote_long w s (by omega)
theorem rquote_any (w : World) (s : ByteArray) :
    Calls Tryd.prog 48 #[.string s] w fun e w' => e = .returned (.tuple #[.string (quoteF s).1, .int .i64 (quoteF s).2]) ∧ Fr (fun _ => False) w w' := by
  unfold quoteF
  split
  · rename_i h
    exact rquote_calls w s h
  · rename_i h
    exact rquote_long w s (by omega)
theorem quoteF_size (s : ByteArray) : (quoteF s).1.size ≤ 16386 := by
  unfold quoteF
  split
  · rename_i h
    have h1 := qL_len (s := s) (raw := rawL s) (rawL_len s) (s.size - 0) 0 (Nat.le_refl _)
    show ((quoteL s).toArray).size ≤ _
    unfold quoteL
    simp only [List.size_toArray, List.length_cons, List.length_append, List.length_nil]
    omega
  · decide
end Go.Proofs.YtagokdbpgljgjaaDoor.Tok
