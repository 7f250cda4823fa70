/-
A text's quoted form: text.Quote, walked at any bytes.
-/
import Derived.Test.YtagokdbpgljgjaaDoorMAR
import Derived.Test.YtagokdbpgljgjaaDoorMAM
import Derived.Test.YtagokdbpgljgjaaDoorMAI
import Derived.KernelRfl
import Derived.Test.YtagokdbpgljgjaaDoorMAD
set_option linter.unusedSimpArgs false
set_option linter.unusedVariables false
namespace Go.Proofs.YtagokdbpgljgjaaDoor.Tok
open Go.RowKit Go.Proofs.YtagokdbpgljgjaaDoorW.PrintWords Go.Proofs.YtagokdbpgljgjaaDoorW.PrintLast Go.Proofs.YtagokdbpgljgjaaDoorW.PrintMore Go.Proofs.YtagokdbpgljgjaaDoor.Fr Go.Proofs.YtagokdbpgljgjaaDoor.PGramFirsts Go.Proofs.YtagokdbpgljgjaaDoor.TextSet Go.Proofs.YtagokdbpgljgjaaDoor.Bld Go.Proofs.YtagokdbpgljgjaaDoor.Utf
/-- A piece of a text as it stands. -/
def rawL (s : ByteArray) (i j : Nat) : List UInt8 := (s.extract i j).data.toList
theorem rawL_len (s : ByteArray) (i j : Nat) : (rawL s i j).length ≤ j - i := by
  unfold rawL
  rw [Lib.extract_data]
  simp
  omega
/-- A quoted text's bytes. -/
def quoteL (s : ByteArray) : List UInt8 := 34 :: (qL (rawL s) s 0 ++ [34])
theorem bytesI_len (l : List UInt8) : (bytesI l).length = l.length := by simp [bytesI]
theorem bytesI_cons (a : UInt8) (l : List UInt8) : bytesI (a :: l) = (a.toNat : Int) :: bytesI l := rfl
theorem bytesI_raw (s : ByteArray) (i j : Nat) : bytesOf (s.extract i j) = bytesI (rawL s i j) := bytesOf_data _
theorem hex_at (k : Nat) (hk : k < 16) : (⟨#[48, 49, 50, 51, 52, 53, 54, 55, 56, 57, 97, 98, 99, 100, 101, 102]⟩ : ByteArray)[k]'hk = hexD k :=
  match k, hk with
  | 0, _ => rfl
  | 1, _ => rfl
  | 2, _ => rfl
  | 3, _ => rfl
  | 4, _ => rfl
  | 5, _ => rfl
  | 6, _ => rfl
  | 7, _ => rfl
  | 8, _ => rfl
  | 9, _ => rfl
  | 10, _ => rfl
  | 11, _ => rfl
  | 12, _ => rfl
  | 13, _ => rfl
  | 14, _ => rfl
  | 15, _ => rfl
  | k + 16, h => absurd h (by omega)
/-- How far the quoting came. -/
structure QuR (w W : World) (s : ByteArray) (i : Nat) (v : Value) (out : List UInt8) : Prop where
  bd : Bd W w.heap.size w.heap.size (.pointer (some ⟨w.heap.size, 0, none⟩)) v (34 :: bytesI out)
  fr : Fr (fun q => w.heap.size ≤ q) w W
  eq : out ++ qL (rawL s) s i = qL (rawL s) s 0
  len : out.length ≤ 4 * i
set_option maxHeartbeats 8000000 in
set_option maxRecDepth 100000 in
theorem quote_calls (w : World) (s : ByteArray) (hs : s.size ≤ 4096) :
    Calls Tryd.prog 45 #[.string s] w fun e w' => e = .returned (.tuple #[.string ⟨(quoteL s).toArray⟩, .int .i64 0]) ∧ Fr (fun _ => False) w w' := by
  have hmx : s.size ≤ maxLen := by have h9 : maxLen = 9223372036854775807 := (by decide); omega
  go_enter Tryd.func45, Tryd.ntmps45
  go_wp2_with (fail)
  have HB0 := Aside0.mk (show Bd (w.alloc (.cells #[.pointer none, .slice none 0 0] 79)) w.heap.size w.heap.size (.pointer none) (.slice none 0 0) [] from ⟨blk_new _ _, Kd.R_nil _ _ _ _ _, .inl rfl⟩)
  have HF0 := Aside0.mk ((Fr.refl (fun k => w.heap.size ≤ k) w).alloc (.cells #[.pointer none, .slice none 0 0] 79))
  refine (writeByte_calls _ w.heap.size w.heap.size _ _ _ 34 HB0.out HF0.out.size (Nat.le_refl _) (by simp)).mono ?_
  rintro e W1 ⟨rfl, v1, hB1, hF1⟩
  have HQ0 := Aside0.mk (show QuR w W1 s 0 v1 [] from ⟨hB1, HF0.out.trans hF1 (fun _ _ h => h), rfl, Nat.le_refl _⟩)
  clear HB0 HF0 hB1 hF1
  go_wp2_with (fail)
  go_loopw [5] (fun a W => ∃ (i : Nat) (v : Value) (out : List UInt8), a = .int .i64 i ∧ i ≤ s.size ∧ Aside0 (QuR w W s i v out)) (fun a _ => s.size - (intOf a).toNat)
  case atStart => exact ⟨0, v1, [], rfl, Nat.zero_le _, HQ0⟩
  case round =>
    clear HQ0
    obtain ⟨i, v, out, rfl, hi, HQ⟩ := hrel
    have hln := HQ.out.len
    by_cases hlt : i < s.size
    case neg =>
      obtain rfl : i = s.size := by omega
      have HF := Aside0.mk HQ.out.fr
      have hout : out = qL (rawL s) s 0 := by have := HQ.out.eq; rwa [qL_out (by omega), List.append_nil] at this
      have HOUT := Aside0.mk hout
      clear hout
      go_wp2_with (fail)
      refine (writeByte_calls wr w.heap.size w.heap.size _ v _ 34 HQ.out.bd HF.out.size (Nat.le_refl _) (by simp only [List.length_cons, bytesI_len]; omega)).mono ?_
      rintro e W2 ⟨rfl, v2, hB2, hF2⟩
      have HBL := Aside0.mk (is_builder (l := quoteL s) (Nat.le_refl _) (show Bd W2 w.heap.size w.heap.size _ v2 (bytesI (quoteL s)) by
        have e : bytesI (quoteL s) = 34 :: bytesI out ++ [34] := by
          unfold quoteL
          rw [← HOUT.out, bytesI_cons, bytesI_append]
          rfl
        rw [e]; exact hB2))
      have HF2 := Aside0.mk (HF.out.trans hF2 (fun _ _ h => h))
      clear hB2 hF2
      go_wp2_with (fail)
      refine (Tryd.Builder_String_any w.heap.size w.heap.size _ W2 HBL.out HF2.out.size).mono ?_
      rintro e W3 ⟨rfl, hb⟩
      have HF3 := Aside0.mk ((HF2.out.below (Nat.le_refl _) (fun k h1 h2 => by omega)).trans hb)
      clear hb
      go_wp2_with (fail)
      go_ret2
      exact ⟨rfl, Fr.of_below HF3.out⟩
    case pos =>
    have HNX := Aside0.mk (next_calls wr s i hlt hmx)
    have HEQ := Aside0.mk (HQ.out.eq.symm.trans (by rw [qL_in hlt, ← List.append_assoc]))
    obtain ⟨hn1, hn4, hns⟩ := next_size s i hlt
    have HB := Aside0.mk HQ.out.bd
    have HF := Aside0.mk HQ.out.fr
    have HGB := Aside0.mk (Utf.get_at hlt)
    generalize nextF s i = nf at HNX HEQ hn1 hn4 hns
    obtain ⟨r, n, ok⟩ := nf
    simp only at hn1 hn4 hns
    go_wp2_with (fail)
    refine HNX.out.mono ?_
    rintro e W2 ⟨rfl, hF2⟩
    have HB2 := Aside0.mk (show Bd W2 w.heap.size w.heap.size (.pointer (some ⟨w.heap.size, 0, none⟩)) v _ from ⟨hF2.blk HB.out.blk id, hF2.R HB.out.row (fun _ _ => id), HB.out.addr⟩)
    have HF2 := Aside0.mk (HF.out.trans hF2 (fun _ _ h => h.elim))
    have hsz := HF2.out.size
    clear hF2 HB HF HNX HQ
    have HWS := Aside0.mk (fun (t : ByteArray) (ht : t.size ≤ 4) => writeString_calls W2 w.heap.size w.heap.size _ v _ t HB2.out hsz (Nat.le_refl _) (by simp only [List.length_cons, bytesI_len]; omega))
    by_cases c1 : r = 10
    case pos =>
      subst c1
      have HP := Aside0.mk (show qL (rawL s) s 0 = (out ++ [92, 110]) ++ qL (rawL s) s (i + n) from by have := HEQ.out; simpa [pieceI] using this)
      have HLB := Aside0.mk (show ([92, 110]).length ≤ 4 * n from by simp only [List.length_cons, List.length_nil]; omega)
      clear HEQ
      go_wp2_with (fail)
      refine (HWS.out ⟨#[92, 110]⟩ (by decide)).mono ?_
      rintro e W3 ⟨⟨rr, rfl⟩, v3, hB3, hF3⟩
      have HQ3 := Aside0.mk (show QuR w W3 s (i + n) v3 (out ++ [92, 110]) from ⟨by rw [bytesI_append]; exact hB3, HF2.out.trans hF3 (fun _ _ h => h), HP.out.symm, by rw [List.length_append]; have h9 : ([92, 110]).length ≤ 4 * n := HLB.out; omega⟩)
      clear HB2 HF2 HWS HP
      go_wp2_with (fail)
      exact ⟨⟨i + n, _, _, by go_num, by omega, HQ3⟩, by simp [intOf]; omega⟩
    have q1 : (((r : Nat) : Int) == 10) = false := beq_eq_false_iff_ne.2 (by omega)
    by_cases c2 : r = 9
    case pos =>
      subst c2
      have HP := Aside0.mk (show qL (rawL s) s 0 = (out ++ [92, 116]) ++ qL (rawL s) s (i + n) from by have := HEQ.out; simpa [pieceI] using this)
      have HLB := Aside0.mk (show ([92, 116]).length ≤ 4 * n from by simp only [List.length_cons, List.length_nil]; omega)
      clear HEQ
      go_wp2_with (fail)
      refine (HWS.out ⟨#[92, 116]⟩ (by decide)).mono ?_
      rintro e W3 ⟨⟨rr, rfl⟩, v3, hB3, hF3⟩
      have HQ3 := Aside0.mk (show QuR w W3 s (i + n) v3 (out ++ [92, 116]) from ⟨by rw [bytesI_append]; exact hB3, HF2.out.trans hF3 (fun _ _ h => h), HP.out.symm, by rw [List.length_append]; have h9 : ([92, 116]).length ≤ 4 * n := HLB.out; omega⟩)
      clear HB2 HF2 HWS HP
      go_wp2_with (fail)
      exact ⟨⟨i + n, _, _, by go_num, by omega, HQ3⟩, by simp [intOf]; omega⟩
    have q2 : (((r : Nat) : Int) == 9) = false := beq_eq_false_iff_ne.2 (by omega)
    by_cases c3 : r = 13
    case pos =>
      subst c3
      have HP := Aside0.mk (show qL (rawL s) s 0 = (out ++ [92, 114]) ++ qL (rawL s) s (i + n) from by have := HEQ.out; simpa [pieceI] using this)
      have HLB := Aside0.mk (show ([92, 114]).length ≤ 4 * n from by simp only [List.length_cons, List.length_nil]; omega)
      clear HEQ
      go_wp2_with (fail)
      refine (HWS.out ⟨#[92, 114]⟩ (by decide)).mono ?_
      rintro e W3 ⟨⟨rr, rfl⟩, v3, hB3, hF3⟩
      have HQ3 := Aside0.mk (show QuR w W3 s (i + n) v3 (out ++ [92, 114]) from ⟨by rw [bytesI_append]; exact hB3, HF2.out.trans hF3 (fun _ _ h => h), HP.out.symm, by rw [List.length_append]; have h9 : ([92, 114]).length ≤ 4 * n := HLB.out; omega⟩)
      clear HB2 HF2 HWS HP
      go_wp2_with (fail)
      exact ⟨⟨i + n, _, _, by go_num, by omega, HQ3⟩, by simp [intOf]; omega⟩
    have q3 : (((r : Nat) : Int) == 13) = false := beq_eq_false_iff_ne.2 (by omega)
    by_cases c4 : r = 34
    case pos =>
      subst c4
      have HP := Aside0.mk (show qL (rawL s) s 0 = (out ++ [92, 34]) ++ qL (rawL s) s (i + n) from by have := HEQ.out; simpa [pieceI] using this)
      have HLB := Aside0.mk (show ([92, 34]).length ≤ 4 * n from by simp only [List.length_cons, List.length_nil]; omega)
      clear HEQ
      go_wp2_with (fail)
      refine (writeByte_calls W2 w.heap.size w.heap.size _ v _ 92 HB2.out hsz (Nat.le_refl _) (by simp only [List.length_cons, bytesI_len]; omega)).mono ?_
      rintro e W3 ⟨rfl, v3, hB3, hF3⟩
      have HB3 := Aside0.mk hB3
      have HF3 := Aside0.mk (HF2.out.trans hF3 (fun _ _ h => h))
      clear hB3 hF3
      have hsz3 := HF3.out.size
      go_wp2_with (fail)
      refine (writeByte_calls W3 w.heap.size w.heap.size _ v3 _ 34 HB3.out hsz3 (Nat.le_refl _) (by simp only [List.length_append, List.length_cons, List.length_nil, bytesI_len]; omega)).mono ?_
      rintro e W4 ⟨rfl, v4, hB4, hF4⟩
      have HQ3 := Aside0.mk (show QuR w W4 s (i + n) v4 (out ++ [92, 34]) from ⟨by rw [bytesI_append]; exact (show Bd W4 _ _ _ v4 (34 :: (bytesI out ++ [92, 34])) from by have h9 := hB4; rwa [List.append_assoc] at h9), HF3.out.trans hF4 (fun _ _ h => h), HP.out.symm, by rw [List.length_append]; have h9 : ([92, 34]).length ≤ 4 * n := HLB.out; omega⟩)
      clear HB2 HF2 HWS HP
      go_wp2_with (fail)
      exact ⟨⟨i + n, _, _, by go_num, by omega, HQ3⟩, by simp [intOf]; omega⟩
    have q4 : (((r : Nat) : Int) == 34) = false := beq_eq_false_iff_ne.2 (by omega)
    by_cases c5 : r = 92
    case pos =>
      subst c5
      have HP := Aside0.mk (show qL (rawL s) s 0 = (out ++ [92, 92]) ++ qL (rawL s) s (i + n) from by have := HEQ.out; simpa [pieceI] using this)
      have HLB := Aside0.mk (show ([92, 92]).length ≤ 4 * n from by simp only [List.length_cons, List.length_nil]; omega)
      clear HEQ
      go_wp2_with (fail)
      refine (writeByte_calls W2 w.heap.size w.heap.size _ v _ 92 HB2.out hsz (Nat.le_refl _) (by simp only [List.length_cons, bytesI_len]; omega)).mono ?_
      rintro e W3 ⟨rfl, v3, hB3, hF3⟩
      have HB3 := Aside0.mk hB3
      have HF3 := Aside0.mk (HF2.out.trans hF3 (fun _ _ h => h))
      clear hB3 hF3
      have hsz3 := HF3.out.size
      go_wp2_with (fail)
      refine (writeByte_calls W3 w.heap.size w.heap.size _ v3 _ 92 HB3.out hsz3 (Nat.le_refl _) (by simp only [List.length_append, List.length_cons, List.length_nil, bytesI_len]; omega)).mono ?_
      rintro e W4 ⟨rfl, v4, hB4, hF4⟩
      have HQ3 := Aside0.mk (show QuR w W4 s (i + n) v4 (out ++ [92, 92]) from ⟨by rw [bytesI_append]; exact (show Bd W4 _ _ _ v4 (34 :: (bytesI out ++ [92, 92])) from by have h9 := hB4; rwa [List.append_assoc] at h9), HF3.out.trans hF4 (fun _ _ h => h), HP.out.symm, by rw [List.length_append]; have h9 : ([92, 92]).length ≤ 4 * n := HLB.out; omega⟩)
      clear HB2 HF2 HWS HP
      go_wp2_with (fail)
      exact ⟨⟨i + n, _, _, by go_num, by omega, HQ3⟩, by simp [intOf]; omega⟩
    have q5 : (((r : Nat) : Int) == 92) = false := beq_eq_false_iff_ne.2 (by omega)
    by_cases c6 : ok = false ∨ r < 32 ∨ r = 127
    case pos =>
      have HP := Aside0.mk (show qL (rawL s) s 0 = (out ++ [92, 120, hexD ((s.get! i).toNat / 16), hexD ((s.get! i).toNat % 16)]) ++ qL (rawL s) s (i + n) from by have := HEQ.out; simpa [pieceI, c1, c2, c3, c4, c5, c6] using this)
      have HLB := Aside0.mk (show ([92, 120, hexD ((s.get! i).toNat / 16), hexD ((s.get! i).toNat % 16)] : List UInt8).length ≤ 4 * n from by simp only [List.length_cons, List.length_nil]; omega)
      clear HEQ
      rw [HGB.out] at HP HLB
      obtain ⟨bb, hbb⟩ : ∃ b, s[i]'hlt = b := ⟨_, rfl⟩
      rw [hbb] at HP HLB
      have hb16 : bb.toNat / 16 < 16 := by have := bb.toNat_lt; omega
      have hb15 : bb.toNat % 16 < 16 := by omega
      have hcond : (ok = false) ∨ (ok = true ∧ r < 32) ∨ (ok = true ∧ ¬ r < 32 ∧ r = 127) := by cases ok <;> simp_all <;> omega
      rcases hcond with rfl | ⟨rfl, c7⟩ | ⟨rfl, c7, rfl⟩
      · go_wp2_with (fail)
        refine (HWS.out ⟨#[92, 120]⟩ (by decide)).mono ?_
        rintro e W3 ⟨⟨rr, rfl⟩, v3, hB3, hF3⟩
        have HB3 := Aside0.mk hB3
        have HF3 := Aside0.mk (HF2.out.trans hF3 (fun _ _ h => h))
        clear hB3 hF3
        have hsz3 := HF3.out.size
        go_wp2_with (fail)
        rw [hex_at (bb.toNat / 16) (by omega)]
        refine (writeByte_calls W3 w.heap.size w.heap.size _ v3 _ _ HB3.out hsz3 (Nat.le_refl _) (by simp only [List.length_append, List.length_cons, bytesI_len]; have h9 : (bytesOf ⟨#[92, 120]⟩).length = 2 := rfl; omega)).mono ?_
        rintro e W4 ⟨rfl, v4, hB4, hF4⟩
        have HB4 := Aside0.mk hB4
        have HF4 := Aside0.mk (HF3.out.trans hF4 (fun _ _ h => h))
        clear hB4 hF4 HB3 HF3
        have hsz4 := HF4.out.size
        go_wp2_with (fail)
        rw [hex_at (bb.toNat % 16) (by omega)]
        refine (writeByte_calls W4 w.heap.size w.heap.size _ v4 _ _ HB4.out hsz4 (Nat.le_refl _) (by simp only [List.length_append, List.length_cons, List.length_nil, bytesI_len]; have h9 : (bytesOf ⟨#[92, 120]⟩).length = 2 := rfl; omega)).mono ?_
        rintro e W5 ⟨rfl, v5, hB5, hF5⟩
        have HQ3 := Aside0.mk (show QuR w W5 s (i + n) v5 (out ++ [92, 120, hexD (bb.toNat / 16), hexD (bb.toNat % 16)]) from ⟨by rw [bytesI_append]; exact (show Bd W5 _ _ _ v5 (34 :: (bytesI out ++ [92, 120, ((hexD (bb.toNat / 16)).toNat : Int), ((hexD (bb.toNat % 16)).toNat : Int)])) from by have h9 := hB5; rw [List.append_assoc, List.append_assoc] at h9; exact h9), HF4.out.trans hF5 (fun _ _ h => h), HP.out.symm, by rw [List.length_append]; have h9 : ([92, 120, hexD (bb.toNat / 16), hexD (bb.toNat % 16)]).length ≤ 4 * n := HLB.out; omega⟩)
        clear HB2 HF2 HWS HP
        go_wp2_with (fail)
        exact ⟨⟨i + n, _, _, by go_num, by omega, HQ3⟩, by simp [intOf]; omega⟩
      · have q7 : decide (((r : Nat) : Int) < 32) = true := decide_eq_true (by omega)
        go_wp2_with (fail)
        refine (HWS.out ⟨#[92, 120]⟩ (by decide)).mono ?_
        rintro e W3 ⟨⟨rr, rfl⟩, v3, hB3, hF3⟩
        have HB3 := Aside0.mk hB3
        have HF3 := Aside0.mk (HF2.out.trans hF3 (fun _ _ h => h))
        clear hB3 hF3
        have hsz3 := HF3.out.size
        go_wp2_with (fail)
        rw [hex_at (bb.toNat / 16) (by omega)]
        refine (writeByte_calls W3 w.heap.size w.heap.size _ v3 _ _ HB3.out hsz3 (Nat.le_refl _) (by simp only [List.length_append, List.length_cons, bytesI_len]; have h9 : (bytesOf ⟨#[92, 120]⟩).length = 2 := rfl; omega)).mono ?_
        rintro e W4 ⟨rfl, v4, hB4, hF4⟩
        have HB4 := Aside0.mk hB4
        have HF4 := Aside0.mk (HF3.out.trans hF4 (fun _ _ h => h))
        clear hB4 hF4 HB3 HF3
        have hsz4 := HF4.out.size
        go_wp2_with (fail)
        rw [hex_at (bb.toNat % 16) (by omega)]
        refine (writeByte_calls W4 w.heap.size w.heap.size _ v4 _ _ HB4.out hsz4 (Nat.le_refl _) (by simp only [List.length_append, List.length_cons, List.length_nil, bytesI_len]; have h9 : (bytesOf ⟨#[92, 120]⟩).length = 2 := rfl; omega)).mono ?_
        rintro e W5 ⟨rfl, v5, hB5, hF5⟩
        have HQ3 := Aside0.mk (show QuR w W5 s (i + n) v5 (out ++ [92, 120, hexD (bb.toNat / 16), hexD (bb.toNat % 16)]) from ⟨by rw [bytesI_append]; exact (show Bd W5 _ _ _ v5 (34 :: (bytesI out ++ [92, 120, ((hexD (bb.toNat / 16)).toNat : Int), ((hexD (bb.toNat % 16)).toNat : Int)])) from by have h9 := hB5; rw [List.append_assoc, List.append_assoc] at h9; exact h9), HF4.out.trans hF5 (fun _ _ h => h), HP.out.symm, by rw [List.length_append]; have h9 : ([92, 120, hexD (bb.toNat / 16), hexD (bb.toNat % 16)]).length ≤ 4 * n := HLB.out; omega⟩)
        clear HB2 HF2 HWS HP
        go_wp2_with (fail)
        exact ⟨⟨i + n, _, _, by go_num, by omega, HQ3⟩, by simp [intOf]; omega⟩
      · go_wp2_with (fail)
        refine (HWS.out ⟨#[92, 120]⟩ (by decide)).mono ?_
        rintro e W3 ⟨⟨rr, rfl⟩, v3, hB3, hF3⟩
        have HB3 := Aside0.mk hB3
        have HF3 := Aside0.mk (HF2.out.trans hF3 (fun _ _ h => h))
        clear hB3 hF3
        have hsz3 := HF3.out.size
        go_wp2_with (fail)
        rw [hex_at (bb.toNat / 16) (by omega)]
        refine (writeByte_calls W3 w.heap.size w.heap.size _ v3 _ _ HB3.out hsz3 (Nat.le_refl _) (by simp only [List.length_append, List.length_cons, bytesI_len]; have h9 : (bytesOf ⟨#[92, 120]⟩).length = 2 := rfl; omega)).mono ?_
        rintro e W4 ⟨rfl, v4, hB4, hF4⟩
        have HB4 := Aside0.mk hB4
        have HF4 := Aside0.mk (HF3.out.trans hF4 (fun _ _ h => h))
        clear hB4 hF4 HB3 HF3
        have hsz4 := HF4.out.size
        go_wp2_with (fail)
        rw [hex_at (bb.toNat % 16) (by omega)]
        refine (writeByte_calls W4 w.heap.size w.heap.size _ v4 _ _ HB4.out hsz4 (Nat.le_refl _) (by simp only [List.length_append, List.length_cons, List.length_nil, bytesI_len]; have h9 : (bytesOf ⟨#[92, 120]⟩).length = 2 := rfl; omega)).mono ?_
        rintro e W5 ⟨rfl, v5, hB5, hF5⟩
        have HQ3 := Aside0.mk (show QuR w W5 s (i + n) v5 (out ++ [92, 120, hexD (bb.toNat / 16), hexD (bb.toNat % 16)]) from ⟨by rw [bytesI_append]; exact (show Bd W5 _ _ _ v5 (34 :: (bytesI out ++ [92, 120, ((hexD (bb.toNat / 16)).toNat : Int), ((hexD (bb.toNat % 16)).toNat : Int)])) from by have h9 := hB5; rw [List.append_assoc, List.append_assoc] at h9; exact h9), HF4.out.trans hF5 (fun _ _ h => h), HP.out.symm, by rw [List.length_append]; have h9 : ([92, 120, hexD (bb.toNat / 16), hexD (bb.toNat % 16)]).length ≤ 4 * n := HLB.out; omega⟩)
        clear HB2 HF2 HWS HP
        go_wp2_with (fail)
        exact ⟨⟨i + n, _, _, by go_num, by omega, HQ3⟩, by simp [intOf]; omega⟩
    obtain ⟨c7, c8, c9⟩ : ok = true ∧ ¬ r < 32 ∧ ¬ r = 127 := ⟨by cases ok <;> simp_all, fun h => c6 (.inr (.inl h)), fun h => c6 (.inr (.inr h))⟩
    subst c7
    have q6 : (((r : Nat) : Int) == 127) = false := beq_eq_false_iff_ne.2 (by omega)
    have q7 : decide (((r : Nat) : Int) < 32) = false := decide_eq_false (by omega)
    have HP := Aside0.mk (show qL (rawL s) s 0 = (out ++ rawL s i (i + n)) ++ qL (rawL s) s (i + n) from by have := HEQ.out; simpa [pieceI, c1, c2, c3, c4, c5, c8, c9] using this)
    have HLB := Aside0.mk (show (rawL s i (i + n)).length ≤ 4 * n from by have := rawL_len s i (i + n); omega)
    clear HEQ
    have HSZ := Aside0.mk (show (s.extract i (i + n)).size ≤ 4 from by simp; omega)
    go_wp2_with (fail)
    refine (HWS.out (s.extract i (i + n)) HSZ.out).mono ?_
    rintro e W3 ⟨⟨rr, rfl⟩, v3, hB3, hF3⟩
    have HQ3 := Aside0.mk (show QuR w W3 s (i + n) v3 (out ++ rawL s i (i + n)) from ⟨by rw [bytesI_append]; exact (by rw [← bytesI_raw]; exact hB3), HF2.out.trans hF3 (fun _ _ h => h), HP.out.symm, by rw [List.length_append]; have h9 : (rawL s i (i + n)).length ≤ 4 * n := HLB.out; omega⟩)
    clear HB2 HF2 HWS HP
    go_wp2_with (fail)
    exact ⟨⟨i + n, _, _, by go_num, by omega, HQ3⟩, by simp [intOf]; omega⟩
end Go.Proofs.YtagokdbpgljgjaaDoor.Tok
/- Of the kit's printed walks (print.sh), turned to one namespace. -/
set_option linter.unusedSimpArgs false
set_option linter.unusedVariables false
namespace Go.Proofs.YtagokdbpgljgjaaDoor.PGramFirsts
open Go.RowKit Go.Proofs.YtagokdbpgljgjaaDoorW.PrintWords Go.Proofs.YtagokdbpgljgjaaDoorW.PrintLast Go.Proofs.YtagokdbpgljgjaaDoorW.PrintMore
attribute [local go_sem] max2_int min2_int max_two min_two max_three min_three max_four min_four
set_option linter.unusedVariables false
set_option linter.unusedSimpArgs false
attribute [local go_sem high] eqA55
def quoinref01_Rune.f (a0 : Int) : Option (Bool) := if a0 ≥ 0 then (if a0 ≤ 1114111 then (if a0 < 55296 then (some true) else (some (decide (a0 > 57343)))) else (some false)) else (some false)
set_option maxHeartbeats 8000000 in
set_option maxRecDepth 100000 in
theorem quoinref01_Rune.calls (a0 : Int) (r : Bool) (w : World) (h : quoinref01_Rune.f a0 = some r) :
    Calls Tryd.prog 66 #[.int .i32 a0] w fun e w' => e = .returned (.bool r) ∧ Drawn0 w w' := by
  have H : (if a0 ≥ 0 then (if a0 ≤ 1114111 then (if a0 < 55296 then (some true) else (some (decide (a0 > 57343)))) else (some false)) else (some false)) = some r := h
  clear h
  by_cases c2 : a0 ≥ 0
  · rw [if_pos c2] at H
    have c2b0 : decide (0 ≤ a0) = true := decide_eq_true c2
    clear c2
    by_cases c3 : a0 ≤ 1114111
    · rw [if_pos c3] at H
      have c3b0 : decide (a0 ≤ 1114111) = true := decide_eq_true c3
      clear c3
      by_cases c4 : a0 < 55296
      · rw [if_pos c4] at H
        have c4b0 : decide (a0 < 55296) = true := decide_eq_true c4
        clear c4
        obtain rfl := Option.some.inj H
        go_enter Tryd.func66, Tryd.ntmps66
        go_wp2
        go_ret
        exact ⟨by first | rfl | (simp; done) | (simp [*]; done), by repeat (first | exact Drawn0.refl _ | apply Drawn0.step)⟩
      · rw [if_neg c4] at H
        have c4b0 : decide (a0 < 55296) = false := decide_eq_false c4
        clear c4
        obtain rfl := Option.some.inj H
        go_enter Tryd.func66, Tryd.ntmps66
        go_wp2
        go_ret
        exact ⟨by first | rfl | (simp; done) | (simp [*]; done), by repeat (first | exact Drawn0.refl _ | apply Drawn0.step)⟩
    · rw [if_neg c3] at H
      have c3b0 : decide (a0 ≤ 1114111) = false := decide_eq_false c3
      clear c3
      obtain rfl := Option.some.inj H
      go_enter Tryd.func66, Tryd.ntmps66
      go_wp2
      go_ret
      exact ⟨by first | rfl | (simp; done) | (simp [*]; done), by repeat (first | exact Drawn0.refl _ | apply Drawn0.step)⟩
  · rw [if_neg c2] at H
    have c2b0 : decide (0 ≤ a0) = false := decide_eq_false c2
    clear c2
    obtain rfl := Option.some.inj H
    go_enter Tryd.func66, Tryd.ntmps66
    go_wp2
    go_ret
    exact ⟨by first | rfl | (simp; done) | (simp [*]; done), by repeat (first | exact Drawn0.refl _ | apply Drawn0.step)⟩
def quoinref01_bytes.f (a0 : Int) : Option (List Int) := if ((a0) % 4294967296) ≤ 127 then (some (([((a0) % 4294967296) % 256] : List Int))) else (if ((a0) % 4294967296) ≤ 2047 then (some (([((192 + (((a0) % 4294967296) / 64)) % 4294967296) % 256, 128 + (((a0) % 4294967296) % 64)] : List Int))) else (if ((a0) % 4294967296) ≤ 65535 then (some (([((224 + (((a0) % 4294967296) / 4096)) % 4294967296) % 256, 128 + ((((a0) % 4294967296) / 64) % 64), 128 + (((a0) % 4294967296) % 64)] : List Int))) else (some (([((240 + (((a0) % 4294967296) / 262144)) % 4294967296) % 256, 128 + ((((a0) % 4294967296) / 4096) % 64), 128 + ((((a0) % 4294967296) / 64) % 64), 128 + (((a0) % 4294967296) % 64)] : List Int)))))
set_option maxHeartbeats 8000000 in
set_option maxRecDepth 100000 in
theorem quoinref01_bytes.calls (a0 : Int) (r : List Int) (w : World) (h : quoinref01_bytes.f a0 = some r) :
    Calls Tryd.prog 67 #[.int .i32 a0] w fun e w' => ∃ v0_ : Value, e = .returned (v0_) ∧ Kd.R (Kd.int .u8) 5 w' w.heap.size (fun _ => True) v0_ r ∧ Below w.heap.size w w' := by
  have HB := Aside0.mk (Below.refl w.heap.size w)
  have H : (if ((a0) % 4294967296) ≤ 127 then (some (([((a0) % 4294967296) % 256] : List Int))) else (if ((a0) % 4294967296) ≤ 2047 then (some (([((192 + (((a0) % 4294967296) / 64)) % 4294967296) % 256, 128 + (((a0) % 4294967296) % 64)] : List Int))) else (if ((a0) % 4294967296) ≤ 65535 then (some (([((224 + (((a0) % 4294967296) / 4096)) % 4294967296) % 256, 128 + ((((a0) % 4294967296) / 64) % 64), 128 + (((a0) % 4294967296) % 64)] : List Int))) else (some (([((240 + (((a0) % 4294967296) / 262144)) % 4294967296) % 256, 128 + ((((a0) % 4294967296) / 4096) % 64), 128 + ((((a0) % 4294967296) / 64) % 64), 128 + (((a0) % 4294967296) % 64)] : List Int)))))) = some r := h
  clear h
  by_cases c2 : ((a0) % 4294967296) ≤ 127
  · rw [if_pos c2] at H
    have c2b0 : decide (((a0) % 4294967296) ≤ 127) = true := decide_eq_true c2
    clear c2
    obtain ⟨y162, hy162⟩ : ∃ y_ : List Int, y_ = (([((a0) % 4294967296) % 256] : List Int)) := ⟨_, rfl⟩
    replace H : (some y162) = some r := by first | (rw [hy162]; with_reducible exact H) | (have H2_ := (Option.bind_some _ _).symm.trans H; rw [hy162]; with_reducible exact H2_) | (have H2_ := (Option.bind_some _ _).symm.trans H; with_reducible exact H2_) | with_reducible exact H | (rw [hy162]; exact H) | exact H
    have Ny162 := Aside0.mk hy162
    clear hy162
    obtain rfl := Option.some.inj H
    go_enter Tryd.func67, Tryd.ntmps67
    go_wp2_with (first | ((with_reducible refine gate_dst (N := 11) rfl ?_); refine Kd.R_lit (Kd.int .u8) _ 5 ?hg (N := 11) ?hd (xs := ([((a0) % 4294967296) % 256] : List Int)) (inner := [.int .u8 (((a0) % 4294967296) % 256)]) (ok := fun _ => True) (okp := fun _ => True) ?hr ?hp (fun _ hk => hk) trivial (Below.refl _ _) (Nat.le_refl _) (by simp) ?_; (case hd => rfl); (case hg => rfl); (case hr => first | (go_simp; done) | (go_simp; rfl)); (case hp => exact (Reps.one (show Kd.M (Kd.int .u8) _ _ _ (((a0) % 4294967296) % 256) [.int .u8 (((a0) % 4294967296) % 256)] from rfl) (Reps.none _ _))); intro v163 w3 ho4 hb hg_ hnew_; clear hg_ hnew_; (first | rw [← Ny162.out] at ho4 | (simp only [Int.reduceToNat] at ho4; rw [← Ny162.out] at ho4)); have n0_ := Aside0.mk (Kd.R_lower ho4 (below_size (by repeat (first | (with_reducible first | exact HB.out | apply below_alloc | apply pw_below_drewN | apply below_drew1) | exact HB.out)))); have n1_ := Aside0.mk (below_step (by repeat (first | (with_reducible first | exact HB.out | apply below_alloc | apply pw_below_drewN | apply below_drew1) | exact HB.out)) hb); clear HB; have HO164 := n0_; have HB := n1_; clear n0_ n1_; clear hb ho4))
    go_ret
    exact ⟨_, by first | rfl | (simp [errW_none, errW_some] <;> rfl) | (simp [*, errW_none, errW_some] <;> rfl), by (with_reducible repeat (first | apply Kd.R_alloc | apply Kd.R_drewN | apply Kd.R_drew)); exact HO164.out, by repeat (first | (with_reducible first | exact HB.out | apply below_alloc | apply pw_below_drewN | apply below_drew1) | exact HB.out)⟩
  · rw [if_neg c2] at H
    have c2b0 : decide (((a0) % 4294967296) ≤ 127) = false := decide_eq_false c2
    clear c2
    by_cases c5 : ((a0) % 4294967296) ≤ 2047
    · rw [if_pos c5] at H
      have c5b0 : decide (((a0) % 4294967296) ≤ 2047) = true := decide_eq_true c5
      clear c5
      obtain ⟨y165, hy165⟩ : ∃ y_ : List Int, y_ = (([((192 + (((a0) % 4294967296) / 64)) % 4294967296) % 256, 128 + (((a0) % 4294967296) % 64)] : List Int)) := ⟨_, rfl⟩
      replace H : (some y165) = some r := by first | (rw [hy165]; with_reducible exact H) | (have H2_ := (Option.bind_some _ _).symm.trans H; rw [hy165]; with_reducible exact H2_) | (have H2_ := (Option.bind_some _ _).symm.trans H; with_reducible exact H2_) | with_reducible exact H | (rw [hy165]; exact H) | exact H
      have Ny165 := Aside0.mk hy165
      clear hy165
      obtain rfl := Option.some.inj H
      go_enter Tryd.func67, Tryd.ntmps67
      go_wp2_with (first | ((with_reducible refine gate_dst (N := 23) rfl ?_); refine Kd.R_lit (Kd.int .u8) _ 5 ?hg (N := 23) ?hd (xs := ([((192 + (((a0) % 4294967296) / 64)) % 4294967296) % 256, 128 + (((a0) % 4294967296) % 64)] : List Int)) (inner := [.int .u8 (((192 + (((a0) % 4294967296) / 64)) % 4294967296) % 256), .int .u8 (128 + (((a0) % 4294967296) % 64))]) (ok := fun _ => True) (okp := fun _ => True) ?hr ?hp (fun _ hk => hk) trivial (Below.refl _ _) (Nat.le_refl _) (by simp) ?_; (case hd => rfl); (case hg => rfl); (case hr => first | (go_simp; done) | (go_simp; rfl)); (case hp => exact (Reps.one (show Kd.M (Kd.int .u8) _ _ _ (((192 + (((a0) % 4294967296) / 64)) % 4294967296) % 256) [.int .u8 (((192 + (((a0) % 4294967296) / 64)) % 4294967296) % 256)] from rfl) (Reps.one (show Kd.M (Kd.int .u8) _ _ _ (128 + (((a0) % 4294967296) % 64)) [.int .u8 (128 + (((a0) % 4294967296) % 64))] from rfl) (Reps.none _ _)))); intro v166 w6 ho7 hb hg_ hnew_; clear hg_ hnew_; (first | rw [← Ny165.out] at ho7 | (simp only [Int.reduceToNat] at ho7; rw [← Ny165.out] at ho7)); have n0_ := Aside0.mk (Kd.R_lower ho7 (below_size (by repeat (first | (with_reducible first | exact HB.out | apply below_alloc | apply pw_below_drewN | apply below_drew1) | exact HB.out)))); have n1_ := Aside0.mk (below_step (by repeat (first | (with_reducible first | exact HB.out | apply below_alloc | apply pw_below_drewN | apply below_drew1) | exact HB.out)) hb); clear HB; have HO167 := n0_; have HB := n1_; clear n0_ n1_; clear hb ho7))
      go_ret
      exact ⟨_, by first | rfl | (simp [errW_none, errW_some] <;> rfl) | (simp [*, errW_none, errW_some] <;> rfl), by (with_reducible repeat (first | apply Kd.R_alloc | apply Kd.R_drewN | apply Kd.R_drew)); exact HO167.out, by repeat (first | (with_reducible first | exact HB.out | apply below_alloc | apply pw_below_drewN | apply below_drew1) | exact HB.out)⟩
    · rw [if_neg c5] at H
      have c5b0 : decide (((a0) % 4294967296) ≤ 2047) = false := decide_eq_false c5
      clear c5
      by_cases c8 : ((a0) % 4294967296) ≤ 65535
      · rw [if_pos c8] at H
        have c8b0 : decide (((a0) % 4294967296) ≤ 65535) = true := decide_eq_true c8
        clear c8
        obtain ⟨y168, hy168⟩ : ∃ y_ : List Int, y_ = (([((224 + (((a0) % 4294967296) / 4096)) % 4294967296) % 256, 128 + ((((a0) % 4294967296) / 64) % 64), 128 + (((a0) % 4294967296) % 64)] : List Int)) := ⟨_, rfl⟩
        replace H : (some y168) = some r := by first | (rw [hy168]; with_reducible exact H) | (have H2_ := (Option.bind_some _ _).symm.trans H; rw [hy168]; with_reducible exact H2_) | (have H2_ := (Option.bind_some _ _).symm.trans H; with_reducible exact H2_) | with_reducible exact H | (rw [hy168]; exact H) | exact H
        have Ny168 := Aside0.mk hy168
        clear hy168
        obtain rfl := Option.some.inj H
        go_enter Tryd.func67, Tryd.ntmps67
        go_wp2_with (first | ((with_reducible refine gate_dst (N := 40) rfl ?_); refine Kd.R_lit (Kd.int .u8) _ 5 ?hg (N := 40) ?hd (xs := ([((224 + (((a0) % 4294967296) / 4096)) % 4294967296) % 256, 128 + ((((a0) % 4294967296) / 64) % 64), 128 + (((a0) % 4294967296) % 64)] : List Int)) (inner := [.int .u8 (((224 + (((a0) % 4294967296) / 4096)) % 4294967296) % 256), .int .u8 (128 + ((((a0) % 4294967296) / 64) % 64)), .int .u8 (128 + (((a0) % 4294967296) % 64))]) (ok := fun _ => True) (okp := fun _ => True) ?hr ?hp (fun _ hk => hk) trivial (Below.refl _ _) (Nat.le_refl _) (by simp) ?_; (case hd => rfl); (case hg => rfl); (case hr => first | (go_simp; done) | (go_simp; rfl)); (case hp => exact (Reps.one (show Kd.M (Kd.int .u8) _ _ _ (((224 + (((a0) % 4294967296) / 4096)) % 4294967296) % 256) [.int .u8 (((224 + (((a0) % 4294967296) / 4096)) % 4294967296) % 256)] from rfl) (Reps.one (show Kd.M (Kd.int .u8) _ _ _ (128 + ((((a0) % 4294967296) / 64) % 64)) [.int .u8 (128 + ((((a0) % 4294967296) / 64) % 64))] from rfl) (Reps.one (show Kd.M (Kd.int .u8) _ _ _ (128 + (((a0) % 4294967296) % 64)) [.int .u8 (128 + (((a0) % 4294967296) % 64))] from rfl) (Reps.none _ _))))); intro v169 w9 ho10 hb hg_ hnew_; clear hg_ hnew_; (first | rw [← Ny168.out] at ho10 | (simp only [Int.reduceToNat] at ho10; rw [← Ny168.out] at ho10)); have n0_ := Aside0.mk (Kd.R_lower ho10 (below_size (by repeat (first | (with_reducible first | exact HB.out | apply below_alloc | apply pw_below_drewN | apply below_drew1) | exact HB.out)))); have n1_ := Aside0.mk (below_step (by repeat (first | (with_reducible first | exact HB.out | apply below_alloc | apply pw_below_drewN | apply below_drew1) | exact HB.out)) hb); clear HB; have HO170 := n0_; have HB := n1_; clear n0_ n1_; clear hb ho10))
        go_ret
        exact ⟨_, by first | rfl | (simp [errW_none, errW_some] <;> rfl) | (simp [*, errW_none, errW_some] <;> rfl), by (with_reducible repeat (first | apply Kd.R_alloc | apply Kd.R_drewN | apply Kd.R_drew)); exact HO170.out, by repeat (first | (with_reducible first | exact HB.out | apply below_alloc | apply pw_below_drewN | apply below_drew1) | exact HB.out)⟩
      · rw [if_neg c8] at H
        have c8b0 : decide (((a0) % 4294967296) ≤ 65535) = false := decide_eq_false c8
        clear c8
        obtain ⟨y171, hy171⟩ : ∃ y_ : List Int, y_ = (([((240 + (((a0) % 4294967296) / 262144)) % 4294967296) % 256, 128 + ((((a0) % 4294967296) / 4096) % 64), 128 + ((((a0) % 4294967296) / 64) % 64), 128 + (((a0) % 4294967296) % 64)] : List Int)) := ⟨_, rfl⟩
        replace H : (some y171) = some r := by first | (rw [hy171]; with_reducible exact H) | (have H2_ := (Option.bind_some _ _).symm.trans H; rw [hy171]; with_reducible exact H2_) | (have H2_ := (Option.bind_some _ _).symm.trans H; with_reducible exact H2_) | with_reducible exact H | (rw [hy171]; exact H) | exact H
        have Ny171 := Aside0.mk hy171
        clear hy171
        obtain rfl := Option.some.inj H
        go_enter Tryd.func67, Tryd.ntmps67
        go_wp2_with (first | ((with_reducible refine gate_dst (N := 59) rfl ?_); refine Kd.R_lit (Kd.int .u8) _ 5 ?hg (N := 59) ?hd (xs := ([((240 + (((a0) % 4294967296) / 262144)) % 4294967296) % 256, 128 + ((((a0) % 4294967296) / 4096) % 64), 128 + ((((a0) % 4294967296) / 64) % 64), 128 + (((a0) % 4294967296) % 64)] : List Int)) (inner := [.int .u8 (((240 + (((a0) % 4294967296) / 262144)) % 4294967296) % 256), .int .u8 (128 + ((((a0) % 4294967296) / 4096) % 64)), .int .u8 (128 + ((((a0) % 4294967296) / 64) % 64)), .int .u8 (128 + (((a0) % 4294967296) % 64))]) (ok := fun _ => True) (okp := fun _ => True) ?hr ?hp (fun _ hk => hk) trivial (Below.refl _ _) (Nat.le_refl _) (by simp) ?_; (case hd => rfl); (case hg => rfl); (case hr => first | (go_simp; done) | (go_simp; rfl)); (case hp => exact (Reps.one (show Kd.M (Kd.int .u8) _ _ _ (((240 + (((a0) % 4294967296) / 262144)) % 4294967296) % 256) [.int .u8 (((240 + (((a0) % 4294967296) / 262144)) % 4294967296) % 256)] from rfl) (Reps.one (show Kd.M (Kd.int .u8) _ _ _ (128 + ((((a0) % 4294967296) / 4096) % 64)) [.int .u8 (128 + ((((a0) % 4294967296) / 4096) % 64))] from rfl) (Reps.one (show Kd.M (Kd.int .u8) _ _ _ (128 + ((((a0) % 4294967296) / 64) % 64)) [.int .u8 (128 + ((((a0) % 4294967296) / 64) % 64))] from rfl) (Reps.one (show Kd.M (Kd.int .u8) _ _ _ (128 + (((a0) % 4294967296) % 64)) [.int .u8 (128 + (((a0) % 4294967296) % 64))] from rfl) (Reps.none _ _)))))); intro v172 w11 ho12 hb hg_ hnew_; clear hg_ hnew_; (first | rw [← Ny171.out] at ho12 | (simp only [Int.reduceToNat] at ho12; rw [← Ny171.out] at ho12)); have n0_ := Aside0.mk (Kd.R_lower ho12 (below_size (by repeat (first | (with_reducible first | exact HB.out | apply below_alloc | apply pw_below_drewN | apply below_drew1) | exact HB.out)))); have n1_ := Aside0.mk (below_step (by repeat (first | (with_reducible first | exact HB.out | apply below_alloc | apply pw_below_drewN | apply below_drew1) | exact HB.out)) hb); clear HB; have HO173 := n0_; have HB := n1_; clear n0_ n1_; clear hb ho12))
        go_ret
        exact ⟨_, by first | rfl | (simp [errW_none, errW_some] <;> rfl) | (simp [*, errW_none, errW_some] <;> rfl), by (with_reducible repeat (first | apply Kd.R_alloc | apply Kd.R_drewN | apply Kd.R_drew)); exact HO173.out, by repeat (first | (with_reducible first | exact HB.out | apply below_alloc | apply pw_below_drewN | apply below_drew1) | exact HB.out)⟩
end Go.Proofs.YtagokdbpgljgjaaDoor.PGramFirsts
/-
A region that draws its order, walked by hand: each step in one short line.
-/
set_option linter.unusedSimpArgs false
set_option linter.unusedVariables false
namespace Go.Proofs.YtagokdbpgljgjaaDoor.Fr
open Go.RowKit Go.Proofs.YtagokdbpgljgjaaDoorW.PrintWords Go.Proofs.YtagokdbpgljgjaaDoorW.PrintLast Go.Proofs.YtagokdbpgljgjaaDoorW.PrintMore
section
variable {P : Program} {ops : Array Oper} {Q : Exit → Act → World → Prop} {md : Region.Mode} {S : World → Prop} {ds : List Nat}
/-- An operation that yields in every world of S is taken. -/
theorem tk (i : Nat) {oi : Oper} {v : Value} {fuel : Nat} {listed : Array Bool} {a a' : Act} {w : World}
    (h : wpAnyLast P md ops Q S ds fuel (listed.setIfInBounds i true) a' w)
    (hi : ops[i]? = some oi := by (first | (simp only [List.getElem?_toArray, List.getElem?_cons_zero]; rfl) | (simp only [List.getElem?_toArray, List.getElem?_cons_succ, List.getElem?_cons_zero]; rfl)))
    (hs : Region.noSelect ops = true := by kernel_rfl) (hf : Region.free md ops listed i = true := by kernel_rfl) (hr : (Region.ready md ops listed).contains i = true := by kernel_rfl)
    (hc : Region.closedB md ops listed = true := by kernel_rfl) (hl : Region.lastB md ops listed ds i = true := by kernel_rfl)
    (hy : YieldsIf P ops S oi v a := by (refine Or.inl ⟨by rfl, ?_⟩; intro w0 hSw; (try dsimp only at hSw); go_simp; try with_reducible rfl))
    (ha : a.put oi.dst v = a' := by ((try simp only [Act.put, List.setIfInBounds_toArray, List.set_cons_zero, List.set_cons_succ]); rfl))
    (hQ : ∀ c a w, Q (.panic c) (a.put oi.dst v) w → Q (.panic c) a w := by exact fun _ _ _ h => h) (hS : S w := by assumption) : wpAnyLast P md ops Q S ds (fuel + 1) listed a w := by
  subst ha
  exact wpAnyLast_take hi hs hf hr hc hl hQ hy hS h
/-- An operation that is not wanted. -/
theorem un (i : Nat) {oi : Oper} {fuel : Nat} {listed : Array Bool} {a a' : Act} {w : World}
    (h : wpAnyLast P md ops Q S ds fuel (listed.setIfInBounds i true) a' w)
    (hi : ops[i]? = some oi := by (first | (simp only [List.getElem?_toArray, List.getElem?_cons_zero]; rfl) | (simp only [List.getElem?_toArray, List.getElem?_cons_succ, List.getElem?_cons_zero]; rfl)))
    (hs : Region.noSelect ops = true := by kernel_rfl) (hf : Region.free md ops listed i = true := by kernel_rfl) (hr : (Region.ready md ops listed).contains i = true := by kernel_rfl)
    (hc : Region.closedB md ops listed = true := by kernel_rfl) (hl : Region.lastB md ops listed ds i = true := by kernel_rfl)
    (hy : YieldsIf P ops S oi undef a := by exact Or.inr ⟨by rfl, rfl⟩)
    (ha : a.put oi.dst undef = a' := by ((try simp only [Act.put, List.setIfInBounds_toArray, List.set_cons_zero, List.set_cons_succ]); rfl))
    (hQ : ∀ c a w, Q (.panic c) (a.put oi.dst undef) w → Q (.panic c) a w := by exact fun _ _ _ h => h) (hS : S w := by assumption) : wpAnyLast P md ops Q S ds (fuel + 1) listed a w := by
  subst ha
  exact wpAnyLast_take hi hs hf hr hc hl hQ hy hS h
/-- An operation that alone may come up. -/
theorem on (i : Nat) {o : Oper} {fuel : Nat} {listed : Array Bool} {a : Act} {w : World}
    (h : ∀ K' : Act → World → Prop, Shut (∀ a w, S w → (S w → wpAnyLast P md ops Q S ds fuel (listed.setIfInBounds i true) a w) → K' a w) → if Region.wanted o (yielded ops a.tmps) = true then Oper.wp P o a w K' Q else K' (a.put o.dst undef) w)
    (ho : ops[i]? = some o := by (first | (simp only [List.getElem?_toArray, List.getElem?_cons_zero]; rfl) | (simp only [List.getElem?_toArray, List.getElem?_cons_succ, List.getElem?_cons_zero]; rfl)))
    (hr : Region.ready md ops listed = [i] := by kernel_rfl) (hd : i ∉ ds := by decide) : wpAnyLast P md ops Q S ds (fuel + 1) listed a w :=
  wpAnyLast_ready hr (by simp) (AllReadyL.cons ho hd h AllReadyL.nil)
/-- One of ds that alone may come up: nothing is shown behind it. -/
theorem onl (i : Nat) {o : Oper} {fuel : Nat} {listed : Array Bool} {a : Act} {w : World}
    (h : ∀ K' : Act → World → Prop, Shut (∀ a w, wpAnyLast P md ops Q S ds fuel (listed.setIfInBounds i true) a w → K' a w) → if Region.wanted o (yielded ops a.tmps) = true then Oper.wp P o a w K' Q else K' (a.put o.dst undef) w)
    (ho : ops[i]? = some o := by (first | (simp only [List.getElem?_toArray, List.getElem?_cons_zero]; rfl) | (simp only [List.getElem?_toArray, List.getElem?_cons_succ, List.getElem?_cons_zero]; rfl)))
    (hr : Region.ready md ops listed = [i] := by kernel_rfl) (hd : i ∈ ds := by decide) : wpAnyLast P md ops Q S ds (fuel + 1) listed a w :=
  wpAnyLast_ready hr (by simp) (AllReadyL.cons_last ho hd h AllReadyL.nil)
/-- All came up. -/
theorem dn {listed : Array Bool} {a : Act} {w : World} {fuel : Nat} (h : Q .normal a w) (hr : Region.ready md ops listed = [] := by kernel_rfl) : wpAnyLast P md ops Q S ds fuel listed a w := wpAnyLast_done hr h fuel
end
end Go.Proofs.YtagokdbpgljgjaaDoor.Fr
